/- Parts of the proof: CodeD, WordsM, Nat1, Nat2, Nat3, Nat4, Nat5, Nat6, YuM, DivM, Nat7, Mul1, Div1, Mul2, Rat1, Rat2, DivN, Nat8, Nat9, Nat10, Rat3, RatQ, Rat4, Rat5. -/
import Derived.Test.YtjbcbbfhcbnncaaGreatDoorPb
set_option linter.unusedVariables false
set_option linter.unusedSimpArgs false
set_option maxRecDepth 100000
namespace Go.Proofs.YtjbcbbfhcbnncaaGreatDoor.Am
section
open Go.Proofs.YtjbcbbfhcbnncaaGreatDoor.Am
theorem mix:Tryz.prog.follows .mixedOrders=true:=by kernel_rfl
@[simp] def om_ (d s:Nat) (l:List Nat):O:=⟨some d,.mv (.t s),none,l⟩
@[simp] def oo_ (d:Nat) (a:A) (l:List Nat):O:=⟨some d,a,none,l⟩
@[simp] def og_ (d:Nat) (a:A) (s:Nat) (b:Bool) (l:List Nat):O:=⟨some d,a,some (s,b),l⟩
@[simp] def on_ (a:A) (l:List Nat):O:=⟨none,a,none,l⟩
noncomputable def codeOf (P:Program) (f:FuncId):C:=match fnOf P f with | some x=>x.1 | none=>.skip
theorem fno {P:Program} {f:FuncId} {rs:List RV} {nt:Nat} (h:((fnOf P f).map fun x=>x.2)=some (rs,nt,false)):fnOf P f=some (codeOf P f,rs,nt,false):=by
 unfold codeOf
 cases e:fnOf P f with
 | none=>rw [e] at h;cases h
 | some x=>rw [e] at h;simp only [Option.map_some,Option.some.injEq] at h;simp only [←h]
theorem cc {P:Program} {N:Nat} {c c':C} {Q:Exit→List V→List (Option Ob)→Prop} {T:List V} {H:List (Option Ob)} (h:c=c') (k:AW P N c' Q T H):AW P N c Q T H:=h▸k

abbrev o_6o:FuncId:=10
noncomputable def o_6p:C:=codeOf Tryz.prog o_6o
theorem o_6q:fnOf Tryz.prog o_6o=some (o_6p,[.t 4],98,false):=fno (by kernel_rfl)

abbrev o_6r:FuncId:=20
noncomputable def o_6s:C:=codeOf Tryz.prog o_6r
theorem o_6t:fnOf Tryz.prog o_6r=some (o_6s,[.cell 4 true 3,.t 5],13,false):=fno (by kernel_rfl)

abbrev o_6u:FuncId:=23
noncomputable def o_6v:C:=codeOf Tryz.prog o_6u
theorem o_6w:fnOf Tryz.prog o_6u=some (o_6v,[.cell 2 true 3],10,false):=fno (by kernel_rfl)

abbrev o_6x:FuncId:=26
noncomputable def o_6y:C:=codeOf Tryz.prog o_6x
theorem o_6z:fnOf Tryz.prog o_6x=some (o_6y,[.t 6,.t 7],43,false):=fno (by kernel_rfl)

abbrev o_70:FuncId:=31
noncomputable def o_71:C:=codeOf Tryz.prog o_70
theorem o_72:fnOf Tryz.prog o_70=some (o_71,[.t 4],16,false):=fno (by kernel_rfl)

abbrev o_73:FuncId:=34
noncomputable def o_74:C:=codeOf Tryz.prog o_73
theorem o_75:fnOf Tryz.prog o_73=some (o_74,[.cell 4 true 9,.t 5],42,false):=fno (by kernel_rfl)

abbrev o_76:FuncId:=35
noncomputable def o_77:C:=codeOf Tryz.prog o_76
theorem o_78:fnOf Tryz.prog o_76=some (o_77,[.cell 2 true 3],6,false):=fno (by kernel_rfl)

abbrev o_79:FuncId:=36
noncomputable def o_7a:C:=codeOf Tryz.prog o_79
theorem o_7b:fnOf Tryz.prog o_79=some (o_7a,[.cell 4 true 3,.cell 5 true 3],66,false):=fno (by kernel_rfl)

abbrev o_7c:FuncId:=38
noncomputable def o_7d:C:=codeOf Tryz.prog o_7c
theorem o_7e:fnOf Tryz.prog o_7c=some (o_7d,[.t 2],16,false):=fno (by kernel_rfl)

abbrev o_7f:FuncId:=39
noncomputable def o_7g:C:=codeOf Tryz.prog o_7f
theorem o_7h:fnOf Tryz.prog o_7f=some (o_7g,[.cell 4 true 3],16,false):=fno (by kernel_rfl)

abbrev o_7i:FuncId:=40
noncomputable def o_7j:C:=codeOf Tryz.prog o_7i
theorem o_7k:fnOf Tryz.prog o_7i=some (o_7j,[.cell 4 true 3],13,false):=fno (by kernel_rfl)

abbrev o_7l:FuncId:=46
noncomputable def o_7m:C:=codeOf Tryz.prog o_7l
theorem o_7n:fnOf Tryz.prog o_7l=some (o_7m,[.cell 4 true 3],22,false):=fno (by kernel_rfl)

abbrev o_7o:FuncId:=49
noncomputable def o_7p:C:=codeOf Tryz.prog o_7o
theorem o_7q:fnOf Tryz.prog o_7o=some (o_7p,[.t 6,.t 7],100,false):=fno (by kernel_rfl)

abbrev o_7r:FuncId:=52
noncomputable def o_7s:C:=codeOf Tryz.prog o_7r
theorem o_7t:fnOf Tryz.prog o_7r=some (o_7s,[.t 2],39,false):=fno (by kernel_rfl)

abbrev o_7u:FuncId:=53
noncomputable def o_7v:C:=codeOf Tryz.prog o_7u
theorem o_7w:fnOf Tryz.prog o_7u=some (o_7v,[.t 2],10,false):=fno (by kernel_rfl)

abbrev o_7x:FuncId:=55
noncomputable def o_7y:C:=codeOf Tryz.prog o_7x
theorem o_7z:fnOf Tryz.prog o_7x=some (o_7y,[.t 4],28,false):=fno (by kernel_rfl)

abbrev o_80:FuncId:=56
noncomputable def o_81:C:=codeOf Tryz.prog o_80
theorem o_82:fnOf Tryz.prog o_80=some (o_81,[.t 2],20,false):=fno (by kernel_rfl)

abbrev o_83:FuncId:=66
noncomputable def o_84:C:=codeOf Tryz.prog o_83
theorem o_85:fnOf Tryz.prog o_83=some (o_84,[.cell 4 true 3,.t 5],21,false):=fno (by kernel_rfl)

abbrev o_86:FuncId:=67
noncomputable def o_87:C:=codeOf Tryz.prog o_86
theorem o_88:fnOf Tryz.prog o_86=some (o_87,[.cell 2 true 2],16,false):=fno (by kernel_rfl)

abbrev o_89:FuncId:=69
noncomputable def o_8a:C:=codeOf Tryz.prog o_89
theorem o_8b:fnOf Tryz.prog o_89=some (o_8a,[.t 4],16,false):=fno (by kernel_rfl)

abbrev o_8c:FuncId:=70
noncomputable def o_8d:C:=codeOf Tryz.prog o_8c
theorem o_8e:fnOf Tryz.prog o_8c=some (o_8d,[.t 4],36,false):=fno (by kernel_rfl)

abbrev o_8f:FuncId:=71
noncomputable def o_8g:C:=codeOf Tryz.prog o_8f
theorem o_8h:fnOf Tryz.prog o_8f=some (o_8g,[.t 2],26,false):=fno (by kernel_rfl)

abbrev o_8i:FuncId:=72
noncomputable def o_8j:C:=codeOf Tryz.prog o_8i
theorem o_8k:fnOf Tryz.prog o_8i=some (o_8j,[.t 4],14,false):=fno (by kernel_rfl)

abbrev o_8l:FuncId:=73
noncomputable def o_8m:C:=codeOf Tryz.prog o_8l
theorem o_8n:fnOf Tryz.prog o_8l=some (o_8m,[.t 2],16,false):=fno (by kernel_rfl)

abbrev o_8o:FuncId:=74
noncomputable def o_8p:C:=codeOf Tryz.prog o_8o
theorem o_8q:fnOf Tryz.prog o_8o=some (o_8p,[.t 2],7,false):=fno (by kernel_rfl)

abbrev o_8r:FuncId:=75
noncomputable def o_8s:C:=codeOf Tryz.prog o_8r
theorem o_8t:fnOf Tryz.prog o_8r=some (o_8s,[.t 4],40,false):=fno (by kernel_rfl)

abbrev o_8u:FuncId:=76
noncomputable def o_8v:C:=codeOf Tryz.prog o_8u
theorem o_8w:fnOf Tryz.prog o_8u=some (o_8v,[.t 3],7,false):=fno (by kernel_rfl)

abbrev o_8x:FuncId:=77
noncomputable def o_8y:C:=codeOf Tryz.prog o_8x
theorem o_8z:fnOf Tryz.prog o_8x=some (o_8y,[.t 6],79,false):=fno (by kernel_rfl)

abbrev o_90:FuncId:=81
noncomputable def o_91:C:=codeOf Tryz.prog o_90
theorem o_92:fnOf Tryz.prog o_90=some (o_91,[.t 4],45,false):=fno (by kernel_rfl)

abbrev o_93:FuncId:=82
noncomputable def o_94:C:=codeOf Tryz.prog o_93
theorem o_95:fnOf Tryz.prog o_93=some (o_94,[.t 4],28,false):=fno (by kernel_rfl)

abbrev o_96:FuncId:=83
noncomputable def o_97:C:=codeOf Tryz.prog o_96
theorem o_98:fnOf Tryz.prog o_96=some (o_97,[.cell 4 true 2],16,false):=fno (by kernel_rfl)

abbrev o_99:FuncId:=84
noncomputable def o_9a:C:=codeOf Tryz.prog o_99
theorem o_9b:fnOf Tryz.prog o_99=some (o_9a,[.cell 2 true 2],6,false):=fno (by kernel_rfl)

abbrev o_9c:FuncId:=85
noncomputable def o_9d:C:=codeOf Tryz.prog o_9c
theorem o_9e:fnOf Tryz.prog o_9c=some (o_9d,[.cell 6 true 3,.t 7],49,false):=fno (by kernel_rfl)

abbrev o_9f:FuncId:=86
noncomputable def o_9g:C:=codeOf Tryz.prog o_9f
theorem o_9h:fnOf Tryz.prog o_9f=some (o_9g,[.cell 4 true 3],6,false):=fno (by kernel_rfl)

abbrev o_9i:FuncId:=87
noncomputable def o_9j:C:=codeOf Tryz.prog o_9i
theorem o_9k:fnOf Tryz.prog o_9i=some (o_9j,[.cell 4 true 3],8,false):=fno (by kernel_rfl)

abbrev o_9l:FuncId:=88
noncomputable def o_9m:C:=codeOf Tryz.prog o_9l
theorem o_9n:fnOf Tryz.prog o_9l=some (o_9m,[.cell 4 true 3],8,false):=fno (by kernel_rfl)

abbrev o_9o:FuncId:=89
noncomputable def o_9p:C:=codeOf Tryz.prog o_9o
theorem o_9q:fnOf Tryz.prog o_9o=some (o_9p,[.cell 2 true 3],6,false):=fno (by kernel_rfl)

abbrev o_9r:FuncId:=90
noncomputable def o_9s:C:=codeOf Tryz.prog o_9r
theorem o_9t:fnOf Tryz.prog o_9r=some (o_9s,[.cell 4 true 3],58,false):=fno (by kernel_rfl)

abbrev o_9u:FuncId:=92
noncomputable def o_9v:C:=codeOf Tryz.prog o_9u
theorem o_9w:fnOf Tryz.prog o_9u=some (o_9v,[.t 2],6,false):=fno (by kernel_rfl)

abbrev o_9x:FuncId:=93
noncomputable def o_9y:C:=codeOf Tryz.prog o_9x
theorem o_9z:fnOf Tryz.prog o_9x=some (o_9y,[.t 2],12,false):=fno (by kernel_rfl)

abbrev o_a0:FuncId:=94
noncomputable def o_a1:C:=codeOf Tryz.prog o_a0
theorem o_a2:fnOf Tryz.prog o_a0=some (o_a1,[.cell 2 true 1],8,false):=fno (by kernel_rfl)

abbrev o_a3:FuncId:=95
noncomputable def o_a4:C:=codeOf Tryz.prog o_a3
theorem o_a5:fnOf Tryz.prog o_a3=some (o_a4,[.t 2],38,false):=fno (by kernel_rfl)

abbrev o_a6:FuncId:=96
noncomputable def o_a7:C:=codeOf Tryz.prog o_a6
theorem o_a8:fnOf Tryz.prog o_a6=some (o_a7,[.cell 4 true 3],46,false):=fno (by kernel_rfl)

abbrev o_a9:FuncId:=97
noncomputable def o_aa:C:=codeOf Tryz.prog o_a9
theorem o_ab:fnOf Tryz.prog o_a9=some (o_aa,[.cell 4 true 1],85,false):=fno (by kernel_rfl)

abbrev o_ac:FuncId:=98
noncomputable def o_ad:C:=codeOf Tryz.prog o_ac
theorem o_ae:fnOf Tryz.prog o_ac=some (o_ad,[.cell 2 true 2],9,false):=fno (by kernel_rfl)

abbrev o_af:FuncId:=100
noncomputable def o_ag:C:=codeOf Tryz.prog o_af
theorem o_ah:fnOf Tryz.prog o_af=some (o_ag,[.t 4],24,false):=fno (by kernel_rfl)

abbrev o_ai:FuncId:=101
noncomputable def o_aj:C:=codeOf Tryz.prog o_ai
theorem o_ak:fnOf Tryz.prog o_ai=some (o_aj,[.cell 2 true 2],8,false):=fno (by kernel_rfl)

abbrev o_al:FuncId:=103
noncomputable def o_am:C:=codeOf Tryz.prog o_al
theorem o_an:fnOf Tryz.prog o_al=some (o_am,[.cell 2 true 3],10,false):=fno (by kernel_rfl)

abbrev o_ao:FuncId:=105
noncomputable def o_ap:C:=codeOf Tryz.prog o_ao
theorem o_aq:fnOf Tryz.prog o_ao=some (o_ap,[.cell 2 true 3],10,false):=fno (by kernel_rfl)

abbrev o_ar:FuncId:=110
noncomputable def o_as:C:=codeOf Tryz.prog o_ar
theorem o_at:fnOf Tryz.prog o_ar=some (o_as,[.cell 4 true 2],48,false):=fno (by kernel_rfl)

abbrev o_au:FuncId:=112
noncomputable def o_av:C:=codeOf Tryz.prog o_au
theorem o_aw:fnOf Tryz.prog o_au=some (o_av,[.t 2],36,false):=fno (by kernel_rfl)

abbrev o_ax:FuncId:=113
noncomputable def o_ay:C:=codeOf Tryz.prog o_ax
theorem o_az:fnOf Tryz.prog o_ax=some (o_ay,[],13,false):=fno (by kernel_rfl)

abbrev o_b0:FuncId:=115
noncomputable def o_b1:C:=codeOf Tryz.prog o_b0
theorem o_b2:fnOf Tryz.prog o_b0=some (o_b1,[.t 2],8,false):=fno (by kernel_rfl)

abbrev o_b3:FuncId:=121
noncomputable def o_b4:C:=codeOf Tryz.prog o_b3
theorem o_b5:fnOf Tryz.prog o_b3=some (o_b4,[.t 4],67,false):=fno (by kernel_rfl)

abbrev o_b6:FuncId:=128
noncomputable def o_b7:C:=codeOf Tryz.prog o_b6
theorem o_b8:fnOf Tryz.prog o_b6=some (o_b7,[.cell 2 true 1],5,false):=fno (by kernel_rfl)

abbrev o_b9:FuncId:=129
noncomputable def o_ba:C:=codeOf Tryz.prog o_b9
theorem o_bb:fnOf Tryz.prog o_b9=some (o_ba,[.t 2],7,false):=fno (by kernel_rfl)

abbrev o_bc:FuncId:=130
noncomputable def o_bd:C:=codeOf Tryz.prog o_bc
theorem o_be:fnOf Tryz.prog o_bc=some (o_bd,[.cell 4 true 2],13,false):=fno (by kernel_rfl)

abbrev o_bf:FuncId:=131
noncomputable def o_bg:C:=codeOf Tryz.prog o_bf
theorem o_bh:fnOf Tryz.prog o_bf=some (o_bg,[.t 2],5,false):=fno (by kernel_rfl)

abbrev o_bi:FuncId:=132
noncomputable def o_bj:C:=codeOf Tryz.prog o_bi
theorem o_bk:fnOf Tryz.prog o_bi=some (o_bj,[.cell 2 true 1],6,false):=fno (by kernel_rfl)

abbrev o_bl:FuncId:=139
noncomputable def o_bm:C:=codeOf Tryz.prog o_bl
theorem o_bn:fnOf Tryz.prog o_bl=some (o_bm,[.t 6],20,false):=fno (by kernel_rfl)

abbrev o_bo:FuncId:=140
noncomputable def o_bp:C:=codeOf Tryz.prog o_bo
theorem o_bq:fnOf Tryz.prog o_bo=some (o_bp,[.cell 2 true 3],11,false):=fno (by kernel_rfl)

abbrev o_br:FuncId:=141
noncomputable def o_bs:C:=codeOf Tryz.prog o_br
theorem o_bt:fnOf Tryz.prog o_br=some (o_bs,[.t 3],7,false):=fno (by kernel_rfl)

abbrev o_bu:FuncId:=142
noncomputable def o_bv:C:=codeOf Tryz.prog o_bu
theorem o_bw:fnOf Tryz.prog o_bu=some (o_bv,[.t 4],29,false):=fno (by kernel_rfl)

abbrev o_bx:FuncId:=143
noncomputable def o_by:C:=codeOf Tryz.prog o_bx
theorem o_bz:fnOf Tryz.prog o_bx=some (o_by,[.cell 2 true 3],10,false):=fno (by kernel_rfl)

abbrev o_c0:FuncId:=144
noncomputable def o_c1:C:=codeOf Tryz.prog o_c0
theorem o_c2:fnOf Tryz.prog o_c0=some (o_c1,[.cell 4 true 3,.t 5],27,false):=fno (by kernel_rfl)

abbrev o_c3:FuncId:=145
noncomputable def o_c4:C:=codeOf Tryz.prog o_c3
theorem o_c5:fnOf Tryz.prog o_c3=some (o_c4,[.t 6],26,false):=fno (by kernel_rfl)

abbrev o_c6:FuncId:=146
abbrev o_c7:FuncId:=147
noncomputable def o_c8:C:=codeOf Tryz.prog o_c7
theorem o_c9:fnOf Tryz.prog o_c7=some (o_c8,[.t 4],30,false):=fno (by kernel_rfl)

abbrev o_ca:FuncId:=148
noncomputable def o_cb:C:=codeOf Tryz.prog o_ca
theorem o_cc:fnOf Tryz.prog o_ca=some (o_cb,[.t 2],12,false):=fno (by kernel_rfl)

abbrev o_cd:FuncId:=149
noncomputable def o_ce:C:=codeOf Tryz.prog o_cd
theorem o_cf:fnOf Tryz.prog o_cd=some (o_ce,[.t 4],9,false):=fno (by kernel_rfl)

abbrev o_cg:FuncId:=150
noncomputable def o_ch:C:=codeOf Tryz.prog o_cg
theorem o_ci:fnOf Tryz.prog o_cg=some (o_ch,[.t 3],8,false):=fno (by kernel_rfl)

abbrev o_cj:FuncId:=151
noncomputable def o_ck:C:=codeOf Tryz.prog o_cj
theorem o_cl:fnOf Tryz.prog o_cj=some (o_ck,[.t 6],32,false):=fno (by kernel_rfl)

abbrev o_cm:FuncId:=152
noncomputable def o_cn:C:=codeOf Tryz.prog o_cm
theorem o_co:fnOf Tryz.prog o_cm=some (o_cn,[.t 4],16,false):=fno (by kernel_rfl)

abbrev o_cp:FuncId:=153
noncomputable def o_cq:C:=codeOf Tryz.prog o_cp
theorem o_cr:fnOf Tryz.prog o_cp=some (o_cq,[.t 3],7,false):=fno (by kernel_rfl)

abbrev o_cs:FuncId:=154
noncomputable def o_ct:C:=codeOf Tryz.prog o_cs
theorem o_cu:fnOf Tryz.prog o_cs=some (o_ct,[.t 4],46,false):=fno (by kernel_rfl)

abbrev o_cv:FuncId:=155
noncomputable def o_cw:C:=codeOf Tryz.prog o_cv
theorem o_cx:fnOf Tryz.prog o_cv=some (o_cw,[.t 4],47,false):=fno (by kernel_rfl)

abbrev o_cy:FuncId:=156
noncomputable def o_cz:C:=codeOf Tryz.prog o_cy
theorem o_d0:fnOf Tryz.prog o_cy=some (o_cz,[.cell 4 true 3,.t 5],38,false):=fno (by kernel_rfl)

abbrev o_d1:FuncId:=157
noncomputable def o_d2:C:=codeOf Tryz.prog o_d1
theorem o_d3:fnOf Tryz.prog o_d1=some (o_d2,[.cell 4 true 1],61,false):=fno (by kernel_rfl)

abbrev o_d4:FuncId:=158
noncomputable def o_d5:C:=codeOf Tryz.prog o_d4
theorem o_d6:fnOf Tryz.prog o_d4=some (o_d5,[.t 4,.t 5],34,false):=fno (by kernel_rfl)

abbrev o_d7:FuncId:=159
noncomputable def o_d8:C:=codeOf Tryz.prog o_d7
theorem o_d9:fnOf Tryz.prog o_d7=some (o_d8,[.cell 2 true 1],22,false):=fno (by kernel_rfl)

abbrev o_da:FuncId:=160
noncomputable def o_db:C:=codeOf Tryz.prog o_da
theorem o_dc:fnOf Tryz.prog o_da=some (o_db,[.t 4],8,false):=fno (by kernel_rfl)

abbrev o_dd:FuncId:=161
noncomputable def o_de:C:=codeOf Tryz.prog o_dd
theorem o_df:fnOf Tryz.prog o_dd=some (o_de,[.t 4],125,false):=fno (by kernel_rfl)

abbrev o_dg:FuncId:=162
noncomputable def o_dh:C:=codeOf Tryz.prog o_dg
theorem o_di:fnOf Tryz.prog o_dg=some (o_dh,[.cell 4 true 1],23,false):=fno (by kernel_rfl)

abbrev o_dj:FuncId:=163
noncomputable def o_dk:C:=codeOf Tryz.prog o_dj
theorem o_dl:fnOf Tryz.prog o_dj=some (o_dk,[.cell 4 true 1,.cell 5 true 1,.t 6],49,false):=fno (by kernel_rfl)

abbrev o_dm:FuncId:=164
noncomputable def o_dn:C:=codeOf Tryz.prog o_dm
theorem o_do:fnOf Tryz.prog o_dm=some (o_dn,[.cell 4 true 1,.t 5],51,false):=fno (by kernel_rfl)

abbrev o_dp:FuncId:=165
noncomputable def o_dq:C:=codeOf Tryz.prog o_dp
theorem o_dr:fnOf Tryz.prog o_dp=some (o_dq,[.t 4,.t 5],51,false):=fno (by kernel_rfl)

abbrev o_ds:FuncId:=167
noncomputable def o_dt:C:=codeOf Tryz.prog o_ds
theorem o_du:fnOf Tryz.prog o_ds=some (o_dt,[.t 4],24,false):=fno (by kernel_rfl)

abbrev o_dv:FuncId:=171
noncomputable def o_dw:C:=codeOf Tryz.prog o_dv
theorem o_dx:fnOf Tryz.prog o_dv=some (o_dw,[.t 4],27,false):=fno (by kernel_rfl)

abbrev o_dy:FuncId:=173
noncomputable def o_dz:C:=codeOf Tryz.prog o_dy
theorem o_e0:fnOf Tryz.prog o_dy=some (o_dz,[.t 2],25,false):=fno (by kernel_rfl)

abbrev o_e1:FuncId:=176
noncomputable def o_e2:C:=codeOf Tryz.prog o_e1
theorem o_e3:fnOf Tryz.prog o_e1=some (o_e2,[.t 2],21,false):=fno (by kernel_rfl)

abbrev o_e4:FuncId:=182
noncomputable def o_e5:C:=codeOf Tryz.prog o_e4
theorem o_e6:fnOf Tryz.prog o_e4=some (o_e5,[.t 2],8,false):=fno (by kernel_rfl)

abbrev o_e7:FuncId:=184
noncomputable def o_e8:C:=codeOf Tryz.prog o_e7
theorem o_e9:fnOf Tryz.prog o_e7=some (o_e8,[.cell 2 true 3,.t 3],20,false):=fno (by kernel_rfl)

abbrev o_ea:FuncId:=185
noncomputable def o_eb:C:=codeOf Tryz.prog o_ea
theorem o_ec:fnOf Tryz.prog o_ea=some (o_eb,[.t 2],50,false):=fno (by kernel_rfl)

abbrev o_ed:FuncId:=186
noncomputable def o_ee:C:=codeOf Tryz.prog o_ed
theorem o_ef:fnOf Tryz.prog o_ed=some (o_ee,[.t 3],7,false):=fno (by kernel_rfl)

abbrev o_eg:FuncId:=188
noncomputable def o_eh:C:=codeOf Tryz.prog o_eg
theorem o_ei:fnOf Tryz.prog o_eg=some (o_eh,[.t 2],18,false):=fno (by kernel_rfl)

abbrev o_ej:FuncId:=189
noncomputable def o_ek:C:=codeOf Tryz.prog o_ej
theorem o_el:fnOf Tryz.prog o_ej=some (o_ek,[.t 4],20,false):=fno (by kernel_rfl)

abbrev o_em:FuncId:=190
noncomputable def o_en:C:=codeOf Tryz.prog o_em
theorem o_eo:fnOf Tryz.prog o_em=some (o_en,[.t 2],4,false):=fno (by kernel_rfl)

abbrev o_ep:FuncId:=191
noncomputable def o_eq:C:=codeOf Tryz.prog o_ep
theorem o_er:fnOf Tryz.prog o_ep=some (o_eq,[.t 2],21,false):=fno (by kernel_rfl)

abbrev o_es:FuncId:=192
noncomputable def o_et:C:=codeOf Tryz.prog o_es
theorem o_eu:fnOf Tryz.prog o_es=some (o_et,[.t 4],19,false):=fno (by kernel_rfl)

abbrev o_ev:FuncId:=193
noncomputable def o_ew:C:=codeOf Tryz.prog o_ev
theorem o_ex:fnOf Tryz.prog o_ev=some (o_ew,[.t 4],27,false):=fno (by kernel_rfl)

abbrev o_ey:FuncId:=194
noncomputable def o_ez:C:=codeOf Tryz.prog o_ey
theorem o_f0:fnOf Tryz.prog o_ey=some (o_ez,[.cell 4 true 3,.t 5],19,false):=fno (by kernel_rfl)

abbrev o_f1:FuncId:=195
noncomputable def o_f2:C:=codeOf Tryz.prog o_f1
theorem o_f3:fnOf Tryz.prog o_f1=some (o_f2,[.t 3],13,false):=fno (by kernel_rfl)

abbrev o_f4:FuncId:=196
noncomputable def o_f5:C:=codeOf Tryz.prog o_f4
theorem o_f6:fnOf Tryz.prog o_f4=some (o_f5,[.cell 4 true 1,.t 5],25,false):=fno (by kernel_rfl)

abbrev o_f7:FuncId:=197
noncomputable def o_f8:C:=codeOf Tryz.prog o_f7
theorem o_f9:fnOf Tryz.prog o_f7=some (o_f8,[.cell 2 true 3],6,false):=fno (by kernel_rfl)

abbrev o_fa:FuncId:=198
noncomputable def o_fb:C:=codeOf Tryz.prog o_fa
theorem o_fc:fnOf Tryz.prog o_fa=some (o_fb,[.cell 4 true 3,.t 5],21,false):=fno (by kernel_rfl)

abbrev o_fd:FuncId:=199
noncomputable def o_fe:C:=codeOf Tryz.prog o_fd
theorem o_ff:fnOf Tryz.prog o_fd=some (o_fe,[.t 6,.t 7],135,false):=fno (by kernel_rfl)

abbrev o_fg:FuncId:=200
noncomputable def o_fh:C:=codeOf Tryz.prog o_fg
theorem o_fi:fnOf Tryz.prog o_fg=some (o_fh,[.t 4],32,false):=fno (by kernel_rfl)

abbrev o_fj:FuncId:=201
noncomputable def o_fk:C:=codeOf Tryz.prog o_fj
theorem o_fl:fnOf Tryz.prog o_fj=some (o_fk,[.t 4,.t 5],30,false):=fno (by kernel_rfl)

abbrev o_fm:FuncId:=202
noncomputable def o_fn:C:=codeOf Tryz.prog o_fm
theorem o_fo:fnOf Tryz.prog o_fm=some (o_fn,[.t 4],8,false):=fno (by kernel_rfl)

abbrev o_fp:FuncId:=207
noncomputable def o_fq:C:=codeOf Tryz.prog o_fp
theorem o_fr:fnOf Tryz.prog o_fp=some (o_fq,[.cell 4 true 1,.cell 5 true 1,.t 6],65,false):=fno (by kernel_rfl)

abbrev o_fs:FuncId:=211
noncomputable def o_ft:C:=codeOf Tryz.prog o_fs
theorem o_fu:fnOf Tryz.prog o_fs=some (o_ft,[.cell 4 true 1,.t 5],23,false):=fno (by kernel_rfl)

abbrev o_fv:FuncId:=220
noncomputable def o_fw:C:=codeOf Tryz.prog o_fv
theorem o_fx:fnOf Tryz.prog o_fv=some (o_fw,[.t 2],6,false):=fno (by kernel_rfl)

abbrev o_fy:FuncId:=221
noncomputable def o_fz:C:=codeOf Tryz.prog o_fy
theorem o_g0:fnOf Tryz.prog o_fy=some (o_fz,[.t 2],6,false):=fno (by kernel_rfl)

abbrev o_g1:FuncId:=222
noncomputable def o_g2:C:=codeOf Tryz.prog o_g1
theorem o_g3:fnOf Tryz.prog o_g1=some (o_g2,[.t 2],15,false):=fno (by kernel_rfl)

abbrev o_g4:FuncId:=223
noncomputable def o_g5:C:=codeOf Tryz.prog o_g4
theorem o_g6:fnOf Tryz.prog o_g4=some (o_g5,[.t 2],15,false):=fno (by kernel_rfl)

abbrev o_g7:FuncId:=224
noncomputable def o_g8:C:=codeOf Tryz.prog o_g7
theorem o_g9:fnOf Tryz.prog o_g7=some (o_g8,[],167,false):=fno (by kernel_rfl)

abbrev o_ga:FuncId:=227
noncomputable def o_gb:C:=codeOf Tryz.prog o_ga
theorem o_gc:fnOf Tryz.prog o_ga=some (o_gb,[.t 4],18,false):=fno (by kernel_rfl)

abbrev o_gd:FuncId:=230
noncomputable def o_ge:C:=codeOf Tryz.prog o_gd
theorem o_gf:fnOf Tryz.prog o_gd=some (o_ge,[.t 4],38,false):=fno (by kernel_rfl)

abbrev o_gg:FuncId:=231
noncomputable def o_gh:C:=codeOf Tryz.prog o_gg
theorem o_gi:fnOf Tryz.prog o_gg=some (o_gh,[.t 4],87,false):=fno (by kernel_rfl)

abbrev o_gj:FuncId:=232
noncomputable def o_gk:C:=codeOf Tryz.prog o_gj
theorem o_gl:fnOf Tryz.prog o_gj=some (o_gk,[.cell 4 true 1],59,false):=fno (by kernel_rfl)

abbrev o_gm:FuncId:=239
noncomputable def o_gn:C:=codeOf Tryz.prog o_gm
theorem o_go:fnOf Tryz.prog o_gm=some (o_gn,[.t 2],6,false):=fno (by kernel_rfl)

abbrev o_gp:FuncId:=240
noncomputable def o_gq:C:=codeOf Tryz.prog o_gp
theorem o_gr:fnOf Tryz.prog o_gp=some (o_gq,[.t 2],4,false):=fno (by kernel_rfl)

abbrev o_gs:FuncId:=245
noncomputable def o_gt:C:=codeOf Tryz.prog o_gs
theorem o_gu:fnOf Tryz.prog o_gs=some (o_gt,[.t 6],68,false):=fno (by kernel_rfl)

abbrev o_gv:FuncId:=265
noncomputable def o_gw:C:=codeOf Tryz.prog o_gv
theorem o_gx:fnOf Tryz.prog o_gv=some (o_gw,[.t 2],20,false):=fno (by kernel_rfl)

abbrev o_gy:FuncId:=268
noncomputable def o_gz:C:=codeOf Tryz.prog o_gy
theorem o_h0:fnOf Tryz.prog o_gy=some (o_gz,[.cell 4 true 3,.t 5],11,false):=fno (by kernel_rfl)

abbrev o_h1:FuncId:=269
noncomputable def o_h2:C:=codeOf Tryz.prog o_h1
theorem o_h3:fnOf Tryz.prog o_h1=some (o_h2,[.t 2],5,false):=fno (by kernel_rfl)

abbrev o_h4:FuncId:=272
noncomputable def o_h5:C:=codeOf Tryz.prog o_h4
theorem o_h6:fnOf Tryz.prog o_h4=some (o_h5,[.cell 4 true 3,.t 5],11,false):=fno (by kernel_rfl)

abbrev o_h7:FuncId:=274
noncomputable def o_h8:C:=codeOf Tryz.prog o_h7
theorem o_h9:fnOf Tryz.prog o_h7=some (o_h8,[.cell 4 true 3,.t 5],29,false):=fno (by kernel_rfl)

abbrev o_ha:FuncId:=275
noncomputable def o_hb:C:=codeOf Tryz.prog o_ha
theorem o_hc:fnOf Tryz.prog o_ha=some (o_hb,[.t 2],9,false):=fno (by kernel_rfl)

abbrev o_hd:FuncId:=277
noncomputable def o_he:C:=codeOf Tryz.prog o_hd
theorem o_hf:fnOf Tryz.prog o_hd=some (o_he,[.cell 4 true 3,.t 5],42,false):=fno (by kernel_rfl)

abbrev o_hg:FuncId:=278
noncomputable def o_hh:C:=codeOf Tryz.prog o_hg
theorem o_hi:fnOf Tryz.prog o_hg=some (o_hh,[.t 4],23,false):=fno (by kernel_rfl)

abbrev o_hj:FuncId:=280
noncomputable def o_hk:C:=codeOf Tryz.prog o_hj
theorem o_hl:fnOf Tryz.prog o_hj=some (o_hk,[.cell 4 true 3,.t 5],44,false):=fno (by kernel_rfl)

abbrev o_hm:FuncId:=282
noncomputable def o_hn:C:=codeOf Tryz.prog o_hm
theorem o_ho:fnOf Tryz.prog o_hm=some (o_hn,[.cell 4 true 1,.t 5],44,false):=fno (by kernel_rfl)

abbrev o_hp:FuncId:=286
noncomputable def o_hq:C:=codeOf Tryz.prog o_hp
theorem o_hr:fnOf Tryz.prog o_hp=some (o_hq,[.cell 4 true 3,.t 5],11,false):=fno (by kernel_rfl)

abbrev o_hs:FuncId:=287
noncomputable def o_ht:C:=codeOf Tryz.prog o_hs
theorem o_hu:fnOf Tryz.prog o_hs=some (o_ht,[.t 2],5,false):=fno (by kernel_rfl)

abbrev o_hv:FuncId:=290
noncomputable def o_hw:C:=codeOf Tryz.prog o_hv
theorem o_hx:fnOf Tryz.prog o_hv=some (o_hw,[.cell 4 true 3,.t 5],17,false):=fno (by kernel_rfl)

abbrev o_hy:FuncId:=292
noncomputable def o_hz:C:=codeOf Tryz.prog o_hy
theorem o_i0:fnOf Tryz.prog o_hy=some (o_hz,[.cell 4 true 3,.t 5],27,false):=fno (by kernel_rfl)

abbrev o_i1:FuncId:=293
noncomputable def o_i2:C:=codeOf Tryz.prog o_i1
theorem o_i3:fnOf Tryz.prog o_i1=some (o_i2,[.t 2],9,false):=fno (by kernel_rfl)

abbrev o_i4:FuncId:=295
noncomputable def o_i5:C:=codeOf Tryz.prog o_i4
theorem o_i6:fnOf Tryz.prog o_i4=some (o_i5,[.cell 4 true 1,.t 5],45,false):=fno (by kernel_rfl)

abbrev o_i7:FuncId:=296
noncomputable def o_i8:C:=codeOf Tryz.prog o_i7
theorem o_i9:fnOf Tryz.prog o_i7=some (o_i8,[.t 4],23,false):=fno (by kernel_rfl)

abbrev o_ia:FuncId:=297
noncomputable def o_ib:C:=codeOf Tryz.prog o_ia
theorem o_ic:fnOf Tryz.prog o_ia=some (o_ib,[.t 4,.t 5],14,false):=fno (by kernel_rfl)

abbrev o_id:FuncId:=299
noncomputable def o_ie:C:=codeOf Tryz.prog o_id
theorem o_if:fnOf Tryz.prog o_id=some (o_ie,[.cell 4 true 3,.t 5],11,false):=fno (by kernel_rfl)

abbrev o_ig:FuncId:=300
noncomputable def o_ih:C:=codeOf Tryz.prog o_ig
theorem o_ii:fnOf Tryz.prog o_ig=some (o_ih,[.t 2],5,false):=fno (by kernel_rfl)

abbrev o_ij:FuncId:=303
noncomputable def o_ik:C:=codeOf Tryz.prog o_ij
theorem o_il:fnOf Tryz.prog o_ij=some (o_ik,[.cell 4 true 3,.t 5],18,false):=fno (by kernel_rfl)

abbrev o_im:FuncId:=305
noncomputable def o_in:C:=codeOf Tryz.prog o_im
theorem o_io:fnOf Tryz.prog o_im=some (o_in,[.cell 4 true 3,.t 5],23,false):=fno (by kernel_rfl)

abbrev o_ip:FuncId:=306
noncomputable def o_iq:C:=codeOf Tryz.prog o_ip
theorem o_ir:fnOf Tryz.prog o_ip=some (o_iq,[.t 2],9,false):=fno (by kernel_rfl)

abbrev o_is:FuncId:=308
def o_it:C:=(.seq (.reg false [oo_ 3 (.box 3 (.t 1)) [],oo_ 4 (.new 326 [(.int .i64 0),(.int .i64 0),.nilsl,.nilsl]) [],oo_ 5 (.mv (.d (.int .i64 0))) []]) (.seq (.block 0 (.seq (.reg false [om_ 10 0 [],oo_ 11 (.call 306 [(.t 10)])
 [0],oo_ 12 (.un .not (.t 11)) [1],om_ 9 12 [2,1]]) (.cond (.t 9) (.seq (.reg false [oo_ 13 (.build [(.int .i64 0),(.int .i64 0),.nilsl,.nilsl] []) [],on_ (.store 4 (.t 4) (.t 13)) [0,0],oo_ 5 (.mv (.d (.int .i64 10)))
 [1,0,1]]) .ret) (.seq (.reg false [oo_ 15 (.load false 1 (.t 3)) [],oo_ 16 (.bin .lss (.t 15) (.d (.int .i64 0))) [0],om_ 17 16 [1],og_ 18 (.load false 1 (.t 3)) 17 false [2],og_ 19 (.bin .gtr (.t 18) (.d (.int .i64
 1023))) 17 false [3,2],oo_ 20 (.pick (.t 17) (.d (.bool true)) (.t 19)) [2,4],om_ 14 20 [5,2]]) (.cond (.t 14) (.seq (.reg false [oo_ 21 (.build [(.int .i64 0),(.int .i64 0),.nilsl,.nilsl] []) [],on_ (.store 4 (.t 4)
 (.t 21)) [0,0],oo_ 5 (.mv (.d (.int .i64 2))) [1,0,1]]) .ret) .skip))))) (.seq (.reg false [oo_ 6 (.new 326 [(.int .i64 0),(.int .i64 0),.nilsl,.nilsl]) []]) (.seq (.seq (.reg false [om_ 22 0 [],oo_ 23 (.call 309 [(.t
 22)]) [0]]) (.block 1 .bad)) (.seq (.reg false [oo_ 30 (.load true 4 (.t 6)) [],on_ (.store 4 (.t 4) (.t 30)) [0,0],oo_ 5 (.mv (.d (.int .i64 0))) [1,0,1]]) .ret)))))
theorem o_iu:fnOf Tryz.prog o_is=some (o_it,[.cell 4 true 4,.t 5],31,false):=by kernel_rfl

abbrev n_yu_walk:FuncId:=309
noncomputable def c_yu_walk:C:=codeOf Tryz.prog n_yu_walk
theorem r_yu_walk:fnOf Tryz.prog n_yu_walk=some (c_yu_walk,[.t 2],4,false):=fno (by kernel_rfl)

abbrev o_iv:FuncId:=310
def o_iw:C:=(.seq (.reg false [oo_ 5 (.load false 1 (.t 1)) [],oo_ 6 (.bin .mul (.d (.int .i64 2)) (.t 5)) [0],oo_ 7 (.bin .shl (.d (.int .u64 1)) (.t 6)) [1],oo_ 8 (.bsl 199 1 1 [(.int .u64 0)] [(0,1,(.t 7))]) [2],oo_ 9 (.call 132
 [(.t 8)]) [3],oo_ 10 (.build [(.int .i64 0),(.int .i64 0),.nilsl,.nilsl] [(3,1,(.t 9))]) [4],oo_ 3 (.new 326 [(.int .i64 0),(.int .i64 0),.nilsl,.nilsl]) [],on_ (.store 4 (.t 3) (.t 10)) [6,5,4,0,1,2,3,4,5,6]]) (.seq
 (.reg false [oo_ 4 (.mv (.d (.int .i64 0))) []]) (.block 0 (.loop (.seq (.seq (.reg false [om_ 11 4 [],oo_ 12 (.bin .leq (.t 11) (.d (.int .i64 1023))) [0]]) (.cond (.t 12) .skip (.exit 0))) (.seq (.block 1 (.seq (.seq
 (.reg false [om_ 15 0 [],om_ 16 4 [],oo_ 17 (.load true 4 (.t 3)) [],oo_ 18 (.callv (.t 15) [(.t 16),(.t 17)]) [0,1,2],oo_ 19 (.un .not (.t 18)) [3]]) (.cond (.t 19) .ret .skip)) (.reg false [oo_ 20 (.load true 4 (.t
 3)) [],oo_ 21 (.load false 1 (.t 1)) [],oo_ 22 (.call 311 [(.t 20),(.t 21)]) [0,1],on_ (.store 4 (.t 3) (.t 22)) [2,2,0,1,2]]))) (.reg false [om_ 13 4 [],oo_ 14 (.bin .add (.t 13) (.d (.int .i64 1))) [0],om_ 4 14
 [1,0,1]])))))))
abbrev o_ix:FuncId:=311
noncomputable def o_iy:C:=codeOf Tryz.prog o_ix
theorem o_iz:fnOf Tryz.prog o_ix=some (o_iy,[.cell 4 true 4],41,false):=fno (by kernel_rfl)

abbrev o_j0:FuncId:=312
noncomputable def o_j1:C:=codeOf Tryz.prog o_j0
theorem o_j2:fnOf Tryz.prog o_j0=some (o_j1,[.cell 4 true 1],28,false):=fno (by kernel_rfl)

abbrev o_j3:FuncId:=313
noncomputable def o_j4:C:=codeOf Tryz.prog o_j3
theorem o_j5:fnOf Tryz.prog o_j3=some (o_j4,[.t 4],12,false):=fno (by kernel_rfl)

abbrev o_j6:FuncId:=166
theorem o_j7:Tryz.prog.funcs[o_j6]?=some Tryz.f166:=Tryz.func166
abbrev o_j8:FuncId:=208
theorem o_j9:Tryz.prog.funcs[o_j8]?=some Tryz.f208:=Tryz.func208
end
section
def wval:List Nat→Nat
 | []=>0
 | x::l=>x+18446744073709551616*wval l
def small (ws:List Nat):Prop:=∀x∈ws,x<18446744073709551616

theorem o_ja:∀(a b:List Nat),wval (a++b)=wval a+18446744073709551616^a.length*wval b:=by
 intro a
 induction a with
 | nil=>intro b;simp [wval]
 | cons x a ih=>intro b;simp only [List.cons_append,wval,List.length_cons];rw [ih,Nat.pow_succ,Nat.mul_add,←Nat.mul_assoc,Nat.mul_comm 18446744073709551616 (18446744073709551616^a.length)];omega
theorem o_jb:∀n,wval (List.replicate n 0)=0:=by
 intro n
 induction n with
 | zero=>rfl
 | succ n ih=>rw [List.replicate_succ,wval,ih]
theorem o_jc:∀{ws:List Nat},small ws→wval ws<18446744073709551616^ws.length:=by
 intro ws
 induction ws with
 | nil=>intro _;simp [wval]
 | cons x l ih =>
  intro h
  have h1:=h x (by simp)
  have h2:=ih (fun y hy=>h y (by simp [hy]))
  rw [wval,List.length_cons,Nat.pow_succ]
  omega

def trimN (ws:List Nat):Nat→Nat
 | 0=>0
 | n+1=>if ws.getD n 0=0 then trimN ws n else n+1
theorem o_jd (ws:List Nat) (n:Nat) (h:n<ws.length):ws.take (n+1)=ws.take n++[ws.getD n 0]:=by
 rw [List.take_add_one,List.getElem?_eq_getElem h]
 simp [List.getD,List.getElem?_eq_getElem h]
theorem o_je (ws:List Nat):∀n,n≤ws.length→wval (ws.take (trimN ws n))=wval (ws.take n):=by
 intro n
 induction n with
 | zero=>intro _;rfl
 | succ n ih =>
  intro h
  unfold trimN
  split
  ·rename_i h0
   rw [ih (by omega),o_jd _ _ (by omega),o_ja,h0]
   simp [wval]
  ·rfl
def top1 (ws:List Nat):Prop:=∀k,ws.length=k+1→ws.getD k 0≠0
theorem o_jf (ws:List Nat):∀n,n≤ws.length→top1 (ws.take (trimN ws n)):=by
 intro n
 induction n with
 | zero=>intro _ k hk;simp [trimN] at hk
 | succ n ih =>
  intro h
  unfold trimN
  split
  ·exact ih (by omega)
  ·rename_i h0
   intro k hk
   rw [List.length_take,Nat.min_eq_left h] at hk
   obtain rfl:n=k:=by omega
   have e:(ws.take (n+1)).getD n 0=ws.getD n 0:=by simp [List.getD]
   rw [e]
   exact h0

theorem small.take {ws:List Nat} (h:small ws) (n:Nat):small (ws.take n):=fun x hx=>h x (List.mem_of_mem_take hx)

theorem o_jg {ws:List Nat} (h:small ws) (ht:top1 ws) (h0:wval ws=0):ws=[]:=by
 rcases ws.eq_nil_or_concat with rfl | ⟨l,x,rfl⟩
 ·rfl
 ·exfalso
  have:=ht l.length (by simp)
  simp at this
  simp [o_ja,wval] at h0
  rcases Nat.mul_eq_zero.1 h0.2 with h | h
  ·exact absurd h (Nat.pos_iff_ne_zero.1 (Nat.pow_pos (by decide)))
  ·exact this h

theorem o_jh:∀{a b:List Nat},small a→small b→top1 a→top1 b→wval a=wval b→a=b:=by
 intro a
 induction a with
 | nil=>intro b _ hb _ tb h;exact (o_jg hb tb h.symm).symm
 | cons x a ih =>
  intro b ha hb ta tb h
  cases b with
  | nil=>exact absurd (o_jg ha ta h) (by simp)
  | cons y b =>
   have h1:=ha x (by simp)
   have h2:=hb y (by simp)
   simp only [wval] at h
   have e:x=y:=by omega
   subst e
   have e2:wval a=wval b:=by omega
   have e3:a=b:=ih (fun z hz=>ha z (by simp [hz])) (fun z hz=>hb z (by simp [hz])) (fun k hk=>by have:=ta (k+1) (by simp [hk]);simpa using this) (fun k hk=>by have:=tb (k+1) (by simp [hk]);simpa using this) e2
   rw [e3]

def movedL (k:Nat):Nat→List Nat→List Nat
 | c,[]=>[c]
 | c,x::l=>((x*2^k)%18446744073709551616+c)::movedL k (x*2^k/18446744073709551616) l
theorem o_ji (k:Nat):∀(l:List Nat) (c:Nat),(movedL k c l).length=l.length+1:=by
 intro l
 induction l with
 | nil=>intro c;rfl
 | cons x l ih=>intro c;simp [movedL,ih]
theorem o_jj (k:Nat):∀(l:List Nat) (c:Nat),wval (movedL k c l)=wval l*2^k+c:=by
 intro l
 induction l with
 | nil=>intro c;simp [movedL,wval]
 | cons x l ih =>
  intro c
  rw [movedL,wval,ih,wval]
  have:=Nat.div_add_mod (x*2^k) 18446744073709551616
  rw [Nat.add_mul,Nat.mul_add,Nat.mul_assoc]
  omega
theorem o_jk {k:Nat} (hk:k<64):∀{l:List Nat} {c:Nat},small l→c<2^k→small (movedL k c l):=by
 have p64:(18446744073709551616:Nat)=2^(64-k)*2^k:=by rw [←Nat.pow_add,show 64-k+k=64 by omega]
 intro l
 induction l with
 | nil =>
  intro c _ hc x hx
  simp [movedL] at hx;subst hx
  exact Nat.lt_trans hc (by rw [show (18446744073709551616:Nat)=2^64 by decide];exact Nat.pow_lt_pow_right (by decide) hk)
 | cons y l ih =>
  intro c h hc x hx
  simp only [movedL,List.mem_cons] at hx
  have hy:=h y (by simp)
  rcases hx with rfl | hx
  ·rw [p64,Nat.mul_mod_mul_right]
   have:y%2^(64-k)<2^(64-k):=Nat.mod_lt _ (Nat.pow_pos (by decide))
   calc _<y%2^(64-k)*2^k+2^k:=by omega
    _=(y%2^(64-k)+1)*2^k:=by rw [Nat.add_mul,Nat.one_mul]
    _≤_:=Nat.mul_le_mul_right _ this
  ·refine ih (fun z hz=>h z (by simp [hz])) ?_ x hx
   apply Nat.div_lt_of_lt_mul
   exact Nat.mul_lt_mul_of_pos_right hy (Nat.pow_pos (by decide))

def movedB (k:Nat):Nat→List Nat→List Nat
 | _,[]=>[]
 | c,x::l=>((x*2^k)%18446744073709551616+c)::movedB k (x*2^k/18446744073709551616) l
def movedC (k:Nat):Nat→List Nat→Nat
 | c,[]=>c
 | _,x::l=>movedC k (x*2^k/18446744073709551616) l
theorem o_jl (k:Nat):∀(l:List Nat) (c:Nat),movedL k c l=movedB k c l++[movedC k c l]:=by
 intro l
 induction l with
 | nil=>intro c;rfl
 | cons x l ih=>intro c;simp [movedL,movedB,movedC,ih]
theorem o_jm (k:Nat) (l:List Nat) (c:Nat):(movedB k c l).length=l.length:=by
 have h:=o_ji k l c
 rw [o_jl,List.length_append] at h
 simpa using h
theorem o_jn (k:Nat) (x:Nat):∀(l:List Nat) (c:Nat),movedB k c (l++[x])=movedB k c l++[(x*2^k)%18446744073709551616+movedC k c l]:=by
 intro l
 induction l with
 | nil=>intro c;rfl
 | cons y l ih=>intro c;simp [movedB,movedC,ih]
theorem o_jo (k:Nat) (x:Nat):∀(l:List Nat) (c:Nat),movedC k c (l++[x])=x*2^k/18446744073709551616:=by
 intro l
 induction l with
 | nil=>intro c;rfl
 | cons y l ih=>intro c;simp [movedC,ih]
theorem o_jp {k x:Nat} (hx:x<18446744073709551616):x*2^k/18446744073709551616<2^k:=by
 apply Nat.div_lt_of_lt_mul
 exact Nat.mul_lt_mul_of_pos_right hx (Nat.pow_pos (by decide))
theorem o_jq {k:Nat}:∀{l:List Nat} {c:Nat},small l→c<2^k→movedC k c l<2^k:=by
 intro l
 induction l with
 | nil=>intro c _ hc;exact hc
 | cons x l ih=>intro c h hc;exact ih (fun z hz=>h z (by simp [hz])) (o_jp (h x (by simp)))
theorem o_jr {k x c:Nat} (hk:k<64) (hc:c<2^k):c ||| (x*2^k)%18446744073709551616=(x*2^k)%18446744073709551616+c:=by
 have p64:(18446744073709551616:Nat)=2^(64-k)*2^k:=by rw [←Nat.pow_add,show 64-k+k=64 by omega]
 rw [p64,Nat.mul_mod_mul_right,Nat.or_comm,Nat.mul_comm]
 exact (Nat.two_pow_add_eq_or_of_lt hc _).symm
theorem o_js {k x:Nat} (hk:k≤64):x*2^k/18446744073709551616=x/2^(64-k):=by
 have p64:(18446744073709551616:Nat)=2^(64-k)*2^k:=by rw [←Nat.pow_add,show 64-k+k=64 by omega]
 rw [p64,Nat.mul_div_mul_right _ _ (Nat.pow_pos (by decide))]

theorem o_jt:∀{ws:List Nat} {m:Nat},top1 ws→wval ws<18446744073709551616^m→ws.length≤m:=by
 intro ws
 induction ws with
 | nil=>intro m _ _;exact Nat.zero_le _
 | cons x l ih =>
  intro m ht h
  cases m with
  | zero =>
   exfalso
   rw [Nat.pow_zero] at h
   rw [wval] at h
   cases l with
   | nil =>
    have:=ht 0 rfl
    simp [wval] at this h
    omega
   | cons y l =>
    have hw:wval (y::l)=0:=by omega
    have:(y::l).length≤0:=ih (m:=0) (fun k hk=>by have:=ht (k+1) (by simp [hk]);simpa using this) (by rw [hw];decide)
    simp at this
  | succ m =>
   rw [List.length_cons]
   have:l.length≤m:=by
    cases l with
    | nil=>exact Nat.zero_le _
    | cons y l =>
     refine ih (fun k hk=>by have:=ht (k+1) (by simp [hk]);simpa using this) ?_
     rw [wval,Nat.pow_succ] at h
     omega
   omega

theorem o_ju (f:Nat→Nat) (n:Nat):wval ((List.range (n+1)).map f)=wval ((List.range n).map f)+18446744073709551616^n*f n:=by
 rw [List.range_succ,List.map_append,o_ja]
 simp [wval]
theorem o_jv (l:List Nat) (n:Nat):wval (l.take (n+1))=wval (l.take n)+18446744073709551616^n*l.getD n 0:=by
 by_cases h:n<l.length
 ·rw [o_jd _ _ h,o_ja,List.length_take,Nat.min_eq_left (Nat.le_of_lt h)]
  simp [wval]
 ·rw [List.take_of_length_le (by omega),List.take_of_length_le (by omega)]
  simp [List.getD,List.getElem?_eq_none (show l.length≤n by omega)]

def carryW (a b:List Nat):Nat→Nat
 | 0=>0
 | n+1=>(a.getD n 0+b.getD n 0+carryW a b n)/18446744073709551616
def addW (a b:List Nat) (n:Nat):Nat:=(a.getD n 0+b.getD n 0+carryW a b n)%18446744073709551616

theorem small.getD {l:List Nat} (h:small l) (n:Nat):l.getD n 0<18446744073709551616:=by
 by_cases hn:n<l.length
 ·rw [List.getD,List.getElem?_eq_getElem hn];exact h _ (List.getElem_mem hn)
 ·simp [List.getD,List.getElem?_eq_none (show l.length≤n by omega)]
theorem o_jw {a b:List Nat} (ha:small a) (hb:small b):∀n,carryW a b n≤1:=by
 intro n
 induction n with
 | zero=>exact Nat.zero_le _
 | succ n ih =>
  have h1:=ha.getD n
  have h2:=hb.getD n
  simp only [carryW]
  omega
theorem o_jx (a b:List Nat):∀n,wval ((List.range n).map (addW a b))+18446744073709551616^n*carryW a b n=wval (a.take n)+wval (b.take n):=by
 intro n
 induction n with
 | zero=>simp [wval,carryW]
 | succ n ih =>
  rw [o_ju,o_jv,o_jv]
  have:=Nat.div_add_mod (a.getD n 0+b.getD n 0+carryW a b n) 18446744073709551616
  simp only [addW,carryW]
  rw [Nat.pow_succ]
  generalize 18446744073709551616^n=P at *
  generalize (a.getD n 0+b.getD n 0+carryW a b n)/18446744073709551616=q at *
  generalize (a.getD n 0+b.getD n 0+carryW a b n)%18446744073709551616=r at *
  have e:P*(18446744073709551616*q+r)=P*a.getD n 0+P*b.getD n 0+P*carryW a b n:=by rw [this];simp [Nat.mul_add]
  rw [Nat.mul_add,←Nat.mul_assoc] at e
  omega

def borrowW (a b:List Nat):Nat→Nat
 | 0=>0
 | n+1=>if a.getD n 0<b.getD n 0+borrowW a b n then 1 else 0
def subW (a b:List Nat) (n:Nat):Nat:=(a.getD n 0+18446744073709551616-b.getD n 0-borrowW a b n)%18446744073709551616
theorem o_jy (a b:List Nat):∀n,borrowW a b n≤1:=by
 intro n
 cases n with
 | zero=>exact Nat.zero_le _
 | succ n=>simp only [borrowW];split<;>omega
theorem o_jz {a b:List Nat} (ha:small a) (hb:small b):∀n,wval ((List.range n).map (subW a b))+wval (b.take n)=wval (a.take n)+18446744073709551616^n*borrowW a b n:=by
 intro n
 induction n with
 | zero=>simp [wval,borrowW]
 | succ n ih =>
  rw [o_ju,o_jv,o_jv]
  have h1:=ha.getD n
  have h2:=hb.getD n
  have h3:=o_jy a b n
  have e:subW a b n+b.getD n 0+borrowW a b n=a.getD n 0+18446744073709551616*borrowW a b (n+1):=by
   simp only [subW,borrowW]
   split<;>omega
  rw [Nat.pow_succ,Nat.mul_assoc]
  generalize 18446744073709551616^n=P at *
  have e2:P*subW a b n+P*b.getD n 0+P*borrowW a b n=P*a.getD n 0+P*(18446744073709551616*borrowW a b (n+1)):=by rw [←Nat.mul_add,←Nat.mul_add,e,Nat.mul_add]
  omega
theorem o_k0 {f:Nat→Nat} (h:∀i,f i<18446744073709551616) (n:Nat):small ((List.range n).map f):=by
 intro x hx
 obtain ⟨i,_,rfl⟩:=List.mem_map.1 hx
 exact h i
theorem o_k1 (a b:List Nat) (i:Nat):addW a b i<18446744073709551616:=Nat.mod_lt _ (by decide)
theorem o_k2 (a b:List Nat) (i:Nat):subW a b i<18446744073709551616:=Nat.mod_lt _ (by decide)

theorem o_k3 {a b:List Nat} (ha:small a) (hb:top1 b) (h:a.length<b.length):wval a<wval b:=by
 refine Nat.lt_of_lt_of_le (o_jc ha) ?_
 apply Nat.le_of_not_lt
 intro hlt
 have:=o_jt hb hlt
 omega
def cmpN (a b:List Nat):Nat→Int
 | 0=>0
 | n+1=>if a.getD n 0<b.getD n 0 then -1 else if b.getD n 0<a.getD n 0 then 1 else cmpN a b n
theorem o_k4 {l:List Nat} (h:small l) (n:Nat):wval (l.take n)<18446744073709551616^n:=by
 have:=o_jc (h.take n)
 rw [List.length_take] at this
 exact Nat.lt_of_lt_of_le this (Nat.pow_le_pow_right (by decide) (Nat.min_le_left _ _))
theorem o_k5 {a b:List Nat} (ha:small a) (hb:small b):∀n,cmpN a b n=if wval (a.take n)<wval (b.take n) then -1 else if wval (b.take n)<wval (a.take n) then 1 else 0:=by
 intro n
 induction n with
 | zero=>simp [cmpN,wval]
 | succ n ih =>
  rw [o_jv,o_jv]
  have h1:=o_k4 ha n
  have h2:=o_k4 hb n
  simp only [cmpN]
  generalize 18446744073709551616^n=P at *
  generalize a.getD n 0=x at *
  generalize b.getD n 0=y at *
  by_cases hxy:x<y
  ·rw [if_pos hxy,if_pos]
   have:P*(x+1)≤P*y:=Nat.mul_le_mul_left _ hxy
   rw [Nat.mul_add] at this
   omega
  ·rw [if_neg hxy]
   by_cases hyx:y<x
   ·have:P*(y+1)≤P*x:=Nat.mul_le_mul_left _ hyx
    rw [Nat.mul_add] at this
    rw [if_pos hyx,if_neg (by omega),if_pos (by omega)]
   ·obtain rfl:x=y:=by omega
    rw [if_neg hyx,ih]
    simp only [Nat.add_lt_add_iff_right]
def cmpZ (m n:Nat):Int:=if m<n then -1 else if n<m then 1 else 0
end
section
open Go.RowKit
def W (ws:List Nat):D:=.sl ws.length (ws.map fun x:Nat=>.int .u64 x)

def wordsF:Nat→Nat→List Nat
 | 0,_=>[]
 | f+1,n=>if n=0 then [] else (n%18446744073709551616)::wordsF f (n/18446744073709551616)
def words (n:Nat):List Nat:=wordsF n n

theorem o_k6:∀(f n:Nat),n≤f→wval (wordsF f n)=n∧small (wordsF f n)∧top1 (wordsF f n)
 | 0,n,h=>by
  obtain rfl:n=0:=by omega
  exact ⟨rfl,by simp [small,wordsF],by intro k hk;simp [wordsF] at hk⟩
 | f+1,n,h=>by
  by_cases h0:n=0
  ·subst h0
   simp only [wordsF,if_true]
   exact ⟨rfl,by simp [small],by intro k hk;simp at hk⟩
  ·obtain ⟨h1,h2,h3⟩:=o_k6 f (n/18446744073709551616) (by omega)
   simp only [wordsF,if_neg h0]
   refine ⟨by simp only [wval,h1];omega,fun x hx=>?_,fun k hk=>?_⟩
   ·rcases List.mem_cons.1 hx with rfl | hx
    ·omega
    ·exact h2 x hx
   ·cases hl:wordsF f (n/18446744073709551616) with
    | nil =>
     rw [hl] at h1 hk
     simp [wval] at h1 hk
     subst hk
     simp;omega
    | cons y r =>
     rw [hl] at hk h3
     simp at hk
     subst hk
     have:=h3 r.length rfl
     simpa using this
theorem o_k7 (n:Nat):wval (words n)=n:=(o_k6 n n (Nat.le_refl _)).1
theorem o_k8 (n:Nat):small (words n):=(o_k6 n n (Nat.le_refl _)).2.1
theorem o_k9 (n:Nat):top1 (words n):=(o_k6 n n (Nat.le_refl _)).2.2
theorem o_ka {ws:List Nat} (h:small ws) (ht:top1 ws):words (wval ws)=ws:=o_jh (o_k8 _) h (o_k9 _) ht (o_k7 _)
theorem o_kb {n:Nat}:words n=[]↔n=0:=by
 constructor
 ·intro h;have:=o_k7 n;rw [h] at this;exact this.symm
 ·rintro rfl;rfl

def natW (n:Nat):D:=W (words n)
theorem o_kc {ws:List Nat} (h:small ws) (ht:top1 ws):natW (wval ws)=W ws:=by rw [natW,o_ka h ht]
theorem o_kd:natW 0 = .sl 0 []:=rfl
def size (n:Nat):Nat:=(words n).length

theorem o_ke (n:Nat) (l:List D) (hl:l.length=n) (hn:n≤4000000000):Eqn Tryz.prog o_e4 [.d (.sl n l)] [] (.d (.sl n l)) []:=by
 refine Eqn.pure o_e6 (o_5d _) ?_
 refine cc (c':=?z0) ?_ ?_
 case refine_1=>cbv<;>exact rfl
 rcases Nat.eq_zero_or_pos n with rfl | h0
 ·have:l=[]:=List.eq_nil_of_length_eq_zero hl
  subst this
  refine AW.empty 0 rfl ?_ ?_
  ·simp
   refine G0 ?_;try with_reducible exact tt
   refine AW.cond rfl (fun h=>?_) (fun h=>?_)
   ·refine G0 ?_;try with_reducible exact tt
    exact Sub1.nil
   ·simp at h
  ·simp
   refine G0 ?_;try with_reducible exact tt
   refine AW.cond rfl (fun h=>?_) (fun h=>?_)
   ·simp at h
   ·refine G0 ?_;try with_reducible exact tt
    exact Sub1.sl0
 ·refine G1 h0 ?_;try with_reducible exact tt
  refine AW.cond rfl (fun h=>?_) (fun h=>?_)
  ·simp at h
  ·refine G0 ?_;try with_reducible exact tt
   have h1:¬n=0:=by omega
   simp [h1,hl]
   refine need.of (by omega) ?_
   refine AW.freeze 0 1 ⟨199,l.map .d⟩ l (by simp) rfl ?_
   simp
   refine G0 ?_;try with_reducible exact tt
   have:l.take n=l:=List.take_of_length_le (by omega)
   simp [this]

theorem o_kf {ws:List Nat} {k:Nat} (h:k<ws.length):ws[k]=ws.getD k 0:=by simp [List.getD,h]

theorem o_kg (ws:List Nat) (hs:small ws) (hn:ws.length≤4000000000):Eqn Tryz.prog o_d7 [.d (W ws)] [] (.d (.agg [natW (wval ws)])) []:=by
 refine Eqn.pure o_d9 (o_5d _) ?_
 refine cc (c':=?z1) ?_ ?_
 case refine_1=>cbv<;>exact rfl
 try simp only [W]
 refine G0 ?_;try with_reducible exact tt
 refine AW.loopT (α:=Nat) 1 (fun m=>[(3,.d (.int .i64 (m:Int)))]) (fun _=>[]) (fun m=>m≤ws.length∧trimN ws m=trimN ws ws.length) (fun m=>m) ws.length ?_ ?_ ⟨Nat.le_refl _,rfl⟩ ?_ ?_ ?_
 ·simp
 ·simp
 ·simp
 ·simp
 rintro m ⟨hm,ht⟩
 simp
 have fin:∀k,k=trimN ws ws.length→W (ws.take k)=natW (wval ws):=by
  rintro k rfl
  have:=o_kc (hs.take (trimN ws ws.length)) (o_jf ws _ (Nat.le_refl _))
  rw [←this,o_je _ _ (Nat.le_refl _),List.take_length]
 cases m with
 | zero =>
  refine G0 ?_;try with_reducible exact tt
  refine AW.cond rfl (fun h=>?_) (fun h=>?_)
  ·simp at h
  refine G0 ?_;try with_reducible exact tt
  refine Sub1.of ?_
  rw [←fin 0 ht]
  simp [W]
 | succ m =>
  have hm':m<ws.length:=hm
  have hp:(0:Int)<(m:Int)+1:=by omega
  have e:(m:Int)+1-1=m:=by omega
  have ew:IntKind.i64.wrap (m:Int)=m:=w64 (by omega) (by omega)
  refine G1 (fs hp (fs e (fs ew hm'))) ?_;try with_reducible exact tt
  refine AW.cond rfl (fun h=>?_) (fun h=>?_)
  ·simp at h
   refine G1 (fs hp (fs e ew)) ?_;try with_reducible exact tt
   refine ⟨m,⟨by omega,?_⟩,?_⟩
   ·rw [←ht,trimN,if_pos]
    rw [←o_kf hm'];omega
   ·simp
  ·simp at h
   refine G0 ?_;try with_reducible exact tt
   have hk:m+1=trimN ws ws.length:=by
    rw [←ht,trimN,if_neg]
    rw [←o_kf hm'];omega
   refine G0 ?_;try with_reducible exact tt
   refine Sub1.of ?_
   rw [←fin _ hk]
   simp [W]
   omega

theorem o_kh (ws:List Nat) (hs:small ws) (hn:ws.length≤4000000000):Eqn Tryz.prog o_bi [.d (W ws)] [] (.d (.agg [natW (wval ws)])) []:=by
 refine Eqn.pure o_bk (o_5d _) ?_
 refine cc (c':=?z2) ?_ ?_
 case refine_1=>cbv<;>exact rfl
 try simp only [W]
 refine G0 ?_;try with_reducible exact tt
 refine CallS.pu (o_ke _ (ws.map fun x:Nat=>.int .u64 x) (by simp) hn) (R0 ?_);try with_reducible exact tt
 refine CallS.pu (o_kg ws hs hn) (R0 ?_);try with_reducible exact tt

theorem o_ki (n:Nat):Eqn Tryz.prog o_b9 [.d (.agg [natW n])] [] (.d (.bool (n==0))) []:=by
 refine Eqn.pure o_bb (o_5d _) ?_
 refine cc (c':=?z3) ?_ ?_
 case refine_1=>cbv<;>exact rfl
 try simp only [natW,W]
 refine G0 ?_;try with_reducible exact tt
 refine Sub1.bool ?_
 rw [Bool.eq_iff_iff]
 simp [o_kb]

theorem o_kj {m n:Nat} (h:size m<size n):m<n:=by
 have:=o_k3 (o_k8 m) (o_k9 n) h
 rwa [o_k7,o_k7] at this

theorem o_kk (m n:Nat) (hm:size m≤1000000) (hn:size n≤1000000):Eqn Tryz.prog o_cv [.d (.agg [natW m]),.d (.agg [natW n])] [] (.d (.int .i64 (cmpZ m n))) []:=by
 refine Eqn.pure o_cx (o_5d _) ?_
 unfold size at hm hn
 have sa:=o_k8 m
 have sb:=o_k8 n
 refine cc (c':=?z4) ?_ ?_
 case refine_1=>cbv<;>exact rfl
 try simp only [natW,W]
 have hz:cmpZ m n=if (words m).length<(words n).length then -1 else if (words n).length<(words m).length then 1 else cmpN (words m) (words n) (words m).length:=by
  split
  ·rename_i h;rw [cmpZ,if_pos (o_kj h)]
  ·split
   ·rename_i h;have:=o_kj h;rw [cmpZ,if_neg (by omega),if_pos this]
   ·have:=o_k5 sa sb (words m).length
    rw [List.take_length,show (words m).length=(words n).length by omega,List.take_length,o_k7,o_k7] at this
    rw [show (words m).length=(words n).length by omega,this]
    rfl
 rw [hz]
 clear hz
 generalize words m=xs at *
 generalize words n=ys at *
 by_cases hl:xs.length=ys.length
 ·refine G1 hl ?_;try with_reducible exact tt
  refine AW.cond rfl (fun h=>?_) (fun h=>?_)
  ·simp [w64] at h
  refine G1 hl ?_;try with_reducible exact tt
  refine AW.loopT (α:=Nat) 2 (fun m=>[(6,.d (.int .i64 ((m:Int)-1)))]) (fun _=>[]) (fun m=>m≤ys.length∧cmpN xs ys m=cmpN xs ys ys.length) (fun m=>m) ys.length ?_ ?_ ⟨Nat.le_refl _,rfl⟩ ?_ ?_ ?_
  ·simp
  ·simp
  ·simp [hl]
  ·simp
  rintro m ⟨hm',hc⟩
  simp
  cases m with
  | zero =>
   refine G0 ?_;try with_reducible exact tt
   refine AW.cond rfl (fun h=>?_) (fun h=>?_)
   ·simp at h
   refine G0 ?_;try with_reducible exact tt
   refine Sub1.int ?_
   rw [←hc];rfl
  | succ m =>
   have h1:m<xs.length:=by omega
   have h2:m<ys.length:=hm'
   have e:(m:Int)+1-1=m:=by omega
   have ew:IntKind.i64.wrap ((m:Int)-1)=(m:Int)-1:=w64 (by omega) (by omega)
   rw [cmpN,←o_kf h1,←o_kf h2] at hc
   refine G1 (fs e (fs h1 h2)) ?_;try with_reducible exact tt
   refine AW.cond rfl (fun h=>?_) (fun h=>?_)
   ·refine G1 (fs e (fs h1 h2)) ?_;try with_reducible exact tt
    refine AW.cond rfl (fun h=>?_) (fun h=>?_)
    ·simp at h
     refine G0 ?_;try with_reducible exact tt
     refine Sub1.int ?_
     rw [if_pos h] at hc
     exact hc
    ·simp at h
     rw [if_neg (by omega)] at hc
     refine G0 ?_;try with_reducible exact tt
     refine AW.cond rfl (fun h=>?_) (fun h=>?_)
     ·simp at h
      refine G0 ?_;try with_reducible exact tt
      refine Sub1.int ?_
      rw [if_pos h] at hc
      exact hc
     ·simp at h
      rw [if_neg (by omega)] at hc
      refine G1 ew ?_;try with_reducible exact tt
      exact ⟨m,⟨by omega,hc⟩,by simp⟩
   ·simp at h
 ·refine G0 ?_;try with_reducible exact tt
  refine AW.cond rfl (fun h=>?_) (fun h=>?_)
  ·refine G0 ?_;try with_reducible exact tt
   refine Sub1.int ?_
   split<;>omega
  ·simp at h
   omega
end
section
open Go.RowKit
abbrev U (ws:List Nat):List V:=ws.map fun x:Nat=>V.d (.int .u64 x)

theorem o_kl (x y c s d:Nat) (hx:x<18446744073709551616) (hy:y<18446744073709551616) (hc:c≤1) (hs:s<18446744073709551616) (e:x+y+c=s+18446744073709551616*d):Eqn Tryz.prog o_j6 [.d (.int .u64 x),.d (.int .u64 y),.d (.int .u64 c)] [] (.tup [.d (.int .u64 s),.d (.int .u64 d)]) []:=by
 refine Eqn.extern o_j7 (by kernel_rfl) (by kernel_rfl) (by kernel_rfl) (e:=add64Entry) (by kernel_rfl) rfl fun m vs h=>?_
 obtain ⟨v1,r1,rfl,h1,h⟩:=V.reps_cons'.1 h
 obtain ⟨v2,r2,rfl,h2,h⟩:=V.reps_cons'.1 h
 obtain ⟨v3,r3,rfl,h3,h⟩:=V.reps_cons'.1 h
 simp at h;subst h
 rw [V.rep_int] at h1 h2 h3
 subst h1 h2 h3
 have:=run_add64 (P:=Tryz.prog) x y c (by omega) (by omega) (by omega) (by omega) m.w
 refine ⟨_,this,?_⟩
 unfold V.rep
 refine ⟨[.int .u64 (((x:Int)+y+c)%18446744073709551616),.int .u64 (((x:Int)+y+c)/18446744073709551616)],rfl,?_⟩
 simp only [V.reps_cons,V.rep_int,V.reps_nil,and_true]
 constructor<;>congr 1<;>omega

theorem o_km (x y c s d:Nat) (hx:x<18446744073709551616) (hy:y<18446744073709551616) (hc:c≤1) (hs:s<18446744073709551616) (e:x+18446744073709551616*d=s+y+c):Eqn Tryz.prog o_j8 [.d (.int .u64 x),.d (.int .u64 y),.d (.int .u64 c)] [] (.tup [.d (.int .u64 s),.d (.int .u64 d)]) []:=by
 refine Eqn.extern o_j9 (by kernel_rfl) (by kernel_rfl) (by kernel_rfl) (e:=sub64Entry) (by kernel_rfl) rfl fun m vs h=>?_
 obtain ⟨v1,r1,rfl,h1,h⟩:=V.reps_cons'.1 h
 obtain ⟨v2,r2,rfl,h2,h⟩:=V.reps_cons'.1 h
 obtain ⟨v3,r3,rfl,h3,h⟩:=V.reps_cons'.1 h
 simp at h;subst h
 rw [V.rep_int] at h1 h2 h3
 subst h1 h2 h3
 have:=run_sub64 (P:=Tryz.prog) x y c hc m.w
 refine ⟨_,this,?_⟩
 unfold V.rep
 refine ⟨[.int .u64 s,.int .u64 d],?_,by simp only [V.reps_cons,V.rep_int,V.reps_nil,and_true]⟩
 congr 4
 ·omega
 ·congr 2
  split<;>omega

theorem o_kn (a b:List Nat) (i:Nat):a.getD i 0+b.getD i 0+carryW a b i=addW a b i+18446744073709551616*carryW a b (i+1):=by
 rw [addW,carryW];exact (Nat.mod_add_div _ _).symm
theorem o_ko {ws:List Nat} {k:Nat} (h:¬k<ws.length):ws.getD k 0=0:=by simp [List.getD,show ws.length≤k by omega]
theorem o_kp (l:List D):(V.tup (l.map .d)).plain:=by
 have h1:V.lowl 0 (l.map V.d)=true:=by induction l<;>simp_all [V.lowl,V.low]
 have h2:∀θ,V.rens θ (l.map V.d)=l.map V.d:=fun θ=>by induction l<;>simp_all [V.rens,V.ren]
 exact ⟨by simp [V.low,h1],fun θ=>by simp [V.ren,h2]⟩

def rowV (f:Nat→D) (n i:Nat):List V:=(List.range i).map (fun k=>V.d (f k))++List.replicate (n-i) (.d (.int .u64 0))
@[simp] theorem o_kq (f:Nat→D) (n i:Nat):(rowV f n i).length=i+(n-i):=by simp [rowV]
theorem out0 (n:Nat) (f:Nat→D):List.replicate n (V.d (.int .u64 0))=rowV f n 0:=by simp [rowV]
theorem o_kr {f:Nat→D} {n i:Nat} (h:i<n):(rowV f n i).set i (.d (f i))=rowV f n (i+1):=by
 obtain ⟨k,rfl⟩:∃k,n=i+k+1:=⟨n-i-1,by omega⟩
 rw [rowV,rowV,List.set_append_right _ _ (by simp),List.range_succ,List.map_append,List.append_assoc]
 congr 1
 simp only [List.length_map,List.length_range,Nat.sub_self]
 rw [show i+k+1-i=k+1 by omega,show i+k+1-(i+1)=k by omega]
 simp [List.replicate_succ]
@[simp] theorem o_ks (n:Nat) (f:Nat→D) (k i:Nat):V.lowl n (rowV f k i)=true:=by
 have h1:∀l:List D,V.lowl n (l.map V.d)=true:=fun l=>by induction l<;>simp_all [V.lowl,V.low]
 have:rowV f k i=((List.range i).map f++List.replicate (k-i) (D.int .u64 0)).map .d:=by simp [rowV]
 rw [this,h1]
@[simp] theorem o_kt (l:List V):Subs l l↔True:=iff_true_intro (Subs.refl l)
theorem o_ku {f:Nat→D} {n:Nat} {z:D}:(rowV f (n+1) n).set n (.d z)=((List.range n).map f++[z]).map .d:=by
 rw [rowV,List.set_append_right _ _ (by simp)]
 simp
theorem o_kv {f:Nat→D} {n:Nat}:rowV f n n=((List.range n).map f).map .d:=by simp [rowV]

theorem o_kw (a b:D):(V.tup [.d a,.d b]).plain:=o_kp [a,b]
theorem o_kx (a b c:D):(V.tup [.d a,.d b,.d c]).plain:=o_kp [a,b,c]

theorem o_ky (m n:Nat) (hm:size m≤1000000) (hn:size n≤1000000):Eqn Tryz.prog o_d1 [.d (.agg [natW m]),.d (.agg [natW n])] [] (.d (.agg [natW (m+n)])) []:=by
 refine Eqn.pure o_d3 (o_5d _) ?_
 -- the longer one,the other one
 obtain ⟨A,B,hAB,hsA,hsB,hle,hsum,hca,hcb⟩:∃A B:List Nat,(A,B)=(if (words m).length<(words n).length then (words n,words m) else (words m,words n))∧small A∧small B∧B.length≤A.length∧wval A+wval B=m+n∧A.length≤1000000∧B.length≤1000000:=by
  unfold size at hm hn
  by_cases h:(words m).length<(words n).length
  ·exact ⟨words n,words m,by rw [if_pos h],o_k8 _,o_k8 _,by omega,by rw [o_k7,o_k7];omega,by omega,by omega⟩
  ·exact ⟨words m,words n,by rw [if_neg h],o_k8 _,o_k8 _,by omega,by rw [o_k7,o_k7],by omega,by omega⟩
 refine cc (c':=?z5) ?_ ?_
 case refine_1=>cbv<;>exact rfl
 try simp only [natW,W]
 generalize words m=xs at *
 generalize words n=ys at *
 unfold size at hm hn
 refine AW.seq (AW.reg mix ?_)
 (simp -implicitDefEqProofs;try simp (disch:=omega) only [w64,wu64])
 refine AW.cut 3 [] [(0,⟨43,[.d (W A)]⟩),(1,⟨43,[.d (W B)]⟩)] ?_ ?_ ?_ ?_
 ·simp
 ·simp
 ·refine G0 ?_;try with_reducible exact tt
  refine AW.cond rfl (fun h=>?_) (fun h=>?_)
  ·simp at h
   rw [if_pos h] at hAB
   cases hAB
   refine G0 ?_;try with_reducible exact tt
   simp [W]
  ·simp at h
   rw [if_neg (by omega)] at hAB
   cases hAB
   refine G0 ?_;try with_reducible exact tt
   simp [W]
 clear hAB hm hn
 simp [W]
 refine G0 ?_;try with_reducible exact tt

 rw [out0 _ (fun k=>.int .u64 (addW A B k:Nat))]
 refine G0 ?_;try with_reducible exact tt
 refine AW.loopT (α:=Nat) 4 (fun i=>[(27,.d (.int .i64 (i:Int))),(6,.d (.int .u64 (carryW A B i:Nat)))]) (fun i=>[(3,⟨199,rowV (fun k=>.int .u64 (addW A B k:Nat)) (A.length+1) i⟩)]) (fun i=>i≤A.length) (fun i=>A.length-i) 0 ?_ ?_ (Nat.zero_le _) ?_ ?_ ?_
 ·simp
 ·simp
 ·simp [carryW]
 ·simp
 rintro i hi
 simp
 by_cases h:i=A.length
 ·subst h
  refine G0 ?_;try with_reducible exact tt
  refine AW.cond rfl (fun h=>?_) (fun h=>?_)
  ·simp at h
  refine AW.exit ?_
  (try (simp -implicitDefEqProofs;try simp (disch:=omega) only [w64,wu64]))
  repeat (first | refine AW.seq ?_ | refine AW.block ?_)
  refine AW.reg mix ?_
  (simp -implicitDefEqProofs;try simp (disch:=omega) only [w64,wu64])
  try refine need.of (by first | omega | kernel_rfl) ?_
  obtain ⟨ws,hl,hr,hv,hs⟩:∃ws:List Nat,ws.length=A.length+1∧(rowV (fun k=>.int .u64 (addW A B k:Nat)) (A.length+1) A.length).set A.length (.d (.int .u64 (carryW A B A.length:Nat)))=U ws∧wval ws=m+n∧small ws:=by
   refine ⟨(List.range A.length).map (addW A B)++[carryW A B A.length],by simp,by rw [o_ku];simp [U],?_,?_⟩
   ·rw [o_ja,←hsum]
    have:=o_jx A B A.length
    rw [List.take_length,List.take_of_length_le hle] at this
    simp [wval]
    rw [←this]
   ·intro x hx
    rcases List.mem_append.1 hx with hx | hx
    ·obtain ⟨k,-,rfl⟩:=List.mem_map.1 hx;exact o_k1 _ _ _
    ·simp at hx;subst hx;have:=o_jw hsA hsB A.length;omega
  rw [hr]
  refine AW.freeze 3 1 ⟨199,_⟩ (ws.map fun x:Nat=>.int .u64 x) (by rfl) (by simp) ?_
  simp [←hl,List.take_of_length_le]
  refine G0 ?_;try with_reducible exact tt
  refine CallS.pu (o_kg ws hs (by omega)) (R0 ?_);try with_reducible exact tt
  refine Sub1.of ?_
  rw [hv];rfl
 ·have hi':i<A.length:=by omega
  have hp:(i:Int)<A.length:=by omega
  have hc:=o_jw hsA hsB i
  have hset:=o_kr (f:=fun k=>.int .u64 (addW A B k:Nat)) (n:=A.length+1) (i:=i) (by omega)
  have ew:IntKind.i64.wrap ((i:Int)+1)=(i:Int)+1:=w64 (by omega) (by omega)
  refine G1 (fs hi' hp) ?_;try with_reducible exact tt
  refine AW.cond rfl (fun h=>?_) (fun h=>?_)
  ·clear h
   by_cases hb:i<B.length
   ·have e:A[i]+B[i]+carryW A B i=addW A B i+18446744073709551616*carryW A B (i+1):=by
     rw [←o_kn,o_kf hi',o_kf hb]
    refine G1 (fs hi' (fs hp hb)) ?_;try with_reducible exact tt
    refine AW.cond rfl (fun h=>?_) (fun h=>?_)
    ·clear h
     refine G1 (fs hi' (fs hp hb)) ?_;try with_reducible exact tt
     refine CallS.pu (o_kl _ _ _ (addW A B i) (carryW A B (i+1)) (hsA _ (List.getElem_mem _)) (hsB _ (List.getElem_mem _)) hc (o_k1 _ _ _) e) (R1 (fs hset ew) ?_);try with_reducible exact tt
     exact ⟨i+1,by omega,by omega,by simp [wk,ew],by simp [wkH]⟩
    ·simp [hb] at h
   ·have e:A[i]+0+carryW A B i=addW A B i+18446744073709551616*carryW A B (i+1):=by
     rw [←o_kn,o_kf hi',o_ko hb]
    refine G1 (fs hi' (fs hp hb)) ?_;try with_reducible exact tt
    refine AW.cond rfl (fun h=>?_) (fun h=>?_)
    ·simp [hb] at h
    ·clear h
     refine G1 (fs hi' (fs hp hb)) ?_;try with_reducible exact tt
     refine CallS.pu (o_kl _ 0 _ (addW A B i) (carryW A B (i+1)) (hsA _ (List.getElem_mem _)) (by omega) hc (o_k1 _ _ _) e) (R1 (fs hset ew) ?_);try with_reducible exact tt
     exact ⟨i+1,by omega,by omega,by simp [wk,ew],by simp [wkH]⟩
  ·simp at h
end
section
open Go.RowKit
theorem o_kz {a b:List Nat} (ha:small a) (hb:small b) (i:Nat):a.getD i 0+18446744073709551616*borrowW a b (i+1)=subW a b i+b.getD i 0+borrowW a b i:=by
 have h1:=ha.getD i
 have h2:=hb.getD i
 have h3:=o_jy a b i
 simp only [subW,borrowW]
 split<;>omega
theorem o_l0 {a b:List Nat} (ha:small a) (hb:small b) (hl:b.length≤a.length) (h:wval b≤wval a):wval ((List.range a.length).map (subW a b))=wval a-wval b:=by
 have h1:=o_jz ha hb a.length
 rw [List.take_length,List.take_of_length_le hl] at h1
 have h2:=o_jy a b a.length
 have h3:=o_jc (o_k0 (o_k2 a b) a.length)
 rw [List.length_map,List.length_range] at h3
 have:borrowW a b a.length=0∨borrowW a b a.length=1:=by omega
 rcases this with e | e
 ·rw [e] at h1;omega
 ·rw [e] at h1;omega
theorem o_l1 {m n:Nat} (h:m≤n):size m≤size n:=by
 apply Nat.le_of_not_lt
 intro hlt
 have:=o_kj hlt
 omega

theorem o_l2 (m n:Nat) (hm:size m≤1000000) (hle:n≤m):Eqn Tryz.prog o_dm [.d (.agg [natW m]),.d (.agg [natW n])] [] (.tup [.d (.agg [natW (m-n)]),.d (.int .i64 0)]) []:=by
 refine Eqn.pure o_do (o_kw _ _) ?_
 have hs:=o_l1 hle
 refine cc (c':=?z6) ?_ ?_
 case refine_1=>cbv<;>exact rfl
 refine G0 ?_;try with_reducible exact tt
 refine CallS.pu (o_kk m n hm (by omega)) (R0 ?_);try with_reducible exact tt
 have hc:¬cmpZ m n<0:=by unfold cmpZ;split<;>(try split)<;>omega
 refine AW.cond rfl (fun h=>?_) (fun h=>?_)
 ·simp [hc] at h
 clear h
 refine G0 ?_;try with_reducible exact tt
 unfold size at hm hs
 obtain ⟨A,hA⟩:∃A,A=words m:=⟨_,rfl⟩
 obtain ⟨B,hB⟩:∃B,B=words n:=⟨_,rfl⟩
 have hsA:small A:=hA▸o_k8 m
 have hsB:small B:=hB▸o_k8 n
 have hvA:wval A=m:=by rw [hA,o_k7]
 have hvB:wval B=n:=by rw [hB,o_k7]
 rw [show natW m = .sl A.length (A.map fun x:Nat=>.int .u64 x) by rw [hA];rfl,show natW n = .sl B.length (B.map fun x:Nat=>.int .u64 x) by rw [hB];rfl]
 rw [←hA,←hB] at hs
 rw [←hA] at hm
 clear hA hB
 refine G0 ?_;try with_reducible exact tt
 rw [out0 _ (fun k=>.int .u64 (subW A B k:Nat))]
 refine AW.loopT (α:=Nat) 4 (fun i=>[(23,.d (.int .i64 (i:Int))),(7,.d (.int .u64 (borrowW A B i:Nat)))]) (fun i=>[(3,⟨199,rowV (fun k=>.int .u64 (subW A B k:Nat)) A.length i⟩)]) (fun i=>i≤A.length) (fun i=>A.length-i) 0 ?_ ?_ (Nat.zero_le _) ?_ ?_ ?_
 ·simp
 ·simp
 ·simp [borrowW]
 ·simp
 rintro i hi
 simp
 by_cases h:i=A.length
 ·subst h
  refine G0 ?_;try with_reducible exact tt
  refine AW.cond rfl (fun h=>?_) (fun h=>?_)
  ·simp at h
  refine AW.exit ?_
  (try (simp -implicitDefEqProofs;try simp (disch:=omega) only [w64,wu64]))
  obtain ⟨ws,hl,hr,hv,hs'⟩:∃ws:List Nat,ws.length=A.length∧rowV (fun k=>.int .u64 (subW A B k:Nat)) A.length A.length=U ws∧wval ws=m-n∧small ws:=by
   refine ⟨(List.range A.length).map (subW A B),by simp,by rw [o_kv];simp [U],?_,o_k0 (o_k2 A B) _⟩
   rw [←hvA,←hvB]
   exact o_l0 hsA hsB hs (by omega)
  rw [hr]
  refine AW.freeze 3 1 ⟨199,_⟩ (ws.map fun x:Nat=>.int .u64 x) (by rfl) (by simp) ?_
  simp [←hl,List.take_of_length_le]
  refine G0 ?_;try with_reducible exact tt
  refine CallS.pu (o_kg ws hs' (by omega)) (R0 ?_);try with_reducible exact tt
  refine Sub1.of ?_
  rw [hv]
 ·have hi':i<A.length:=by omega
  have hp:(i:Int)<A.length:=by omega
  have hc:=o_jy A B i
  have hset:=o_kr (f:=fun k=>.int .u64 (subW A B k:Nat)) (n:=A.length) (i:=i) (by omega)
  have ew:IntKind.i64.wrap ((i:Int)+1)=(i:Int)+1:=w64 (by omega) (by omega)
  have e:=o_kz hsA hsB i
  refine G1 (fs hi' hp) ?_;try with_reducible exact tt
  refine AW.cond rfl (fun h=>?_) (fun h=>?_)
  ·clear h
   by_cases hb:i<B.length
   ·rw [←o_kf hi',←o_kf hb] at e
    refine G1 (fs hi' (fs hp hb)) ?_;try with_reducible exact tt
    refine AW.cond rfl (fun h=>?_) (fun h=>?_)
    ·clear h
     refine G1 (fs hi' (fs hp hb)) ?_;try with_reducible exact tt
     refine CallS.pu (o_km _ _ _ (subW A B i) (borrowW A B (i+1)) (hsA _ (List.getElem_mem _)) (hsB _ (List.getElem_mem _)) hc (o_k2 _ _ _) e) (R1 (fs hset ew) ?_);try with_reducible exact tt
     exact ⟨i+1,by omega,by omega,by simp [wk,ew],by simp [wkH]⟩
    ·simp [hb] at h
   ·rw [←o_kf hi',o_ko hb] at e
    refine G1 (fs hi' (fs hp hb)) ?_;try with_reducible exact tt
    refine AW.cond rfl (fun h=>?_) (fun h=>?_)
    ·simp [hb] at h
    ·clear h
     refine G1 (fs hi' (fs hp hb)) ?_;try with_reducible exact tt
     refine CallS.pu (o_km _ 0 _ (subW A B i) (borrowW A B (i+1)) (hsA _ (List.getElem_mem _)) (by omega) hc (o_k2 _ _ _) e) (R1 (fs hset ew) ?_);try with_reducible exact tt
     exact ⟨i+1,by omega,by omega,by simp [wk,ew],by simp [wkH]⟩
  ·simp at h
end
section
open Go.RowKit
def rowM (k:Nat) (A:List Nat) (i:Nat):List Nat:=movedL k 0 (A.take i)++List.replicate (A.length-i) 0
theorem o_l3 (k:Nat) (A:List Nat) (i:Nat) (h:i≤A.length):(rowM k A i).length=A.length+1:=by
 rw [rowM,List.length_append,o_ji,List.length_take,List.length_replicate];omega
theorem o_l4 (k:Nat) (A:List Nat):rowM k A 0=List.replicate (A.length+1) 0:=by simp [rowM,movedL,List.replicate_succ]
theorem o_l5 (k:Nat) (A:List Nat):rowM k A A.length=movedL k 0 A:=by simp [rowM]
theorem o_l6 (k:Nat) (A:List Nat) (i:Nat) (h:i<A.length):(rowM k A i).getD i 0=movedC k 0 (A.take i):=by
 have e:i=(movedB k 0 (A.take i)).length:=by rw [o_jm,List.length_take];omega
 rw [rowM,o_jl,List.append_assoc,List.getD,List.getElem?_append_right (by omega),show i-(movedB k 0 (A.take i)).length=0 by omega]
 rfl
theorem o_l7 (k:Nat) (A:List Nat) (i:Nat) (h:i<A.length):((rowM k A i).set i (A.getD i 0*2^k%18446744073709551616+movedC k 0 (A.take i))).set (i+1) (A.getD i 0*2^k/18446744073709551616)=rowM k A (i+1):=by
 have e:(movedB k 0 (A.take i)).length=i:=by rw [o_jm,List.length_take];omega
 obtain ⟨r,hr⟩:∃r,A.length=i+r+1:=⟨A.length-i-1,by omega⟩
 rw [rowM,rowM,o_jl,o_jl,o_jd _ _ h,o_jn,o_jo,hr,show i+r+1-i=r+1 by omega,show i+r+1-(i+1)=r by omega,List.replicate_succ]
 simp only [List.append_assoc,List.cons_append,List.nil_append]
 rw [List.set_append_right _ _ (by omega),List.set_append_right _ _ (by omega),e]
 simp

def cellM (k:Nat) (A:List Nat) (i:Nat):List V:=U (rowM k A i)
@[simp] theorem o_l8 (n:Nat) (l:List Nat):V.lowl n (U l)=true:=by induction l<;>simp_all [U,V.lowl,V.low]

set_option maxHeartbeats 1000000 in
theorem o_l9 (A:List Nat) (k:Nat) (hk:k<64) (hs:small A) (hn:A.length≤1000000):Eqn Tryz.prog o_gd [.d (W A),.d (.int .i64 k)] [] (.d (W (movedL k 0 A))) []:=by
 refine Eqn.pure o_gf (o_5d _) ?_
 refine cc (c':=?z7) ?_ ?_
 case refine_1=>cbv<;>exact rfl
 try simp only [W]
 refine G0 ?_;try with_reducible exact tt
 rw [show List.replicate (A.length+1) (V.d (.int .u64 0))=cellM k A 0 by rw [cellM,o_l4];simp [U]]
 have hlow:∀i,V.lowl 1 (cellM k A i)=true:=fun i=>o_l8 1 _
 refine AW.loopT (α:=Nat) 1 (fun i=>[(14,.d (.int .i64 (i:Int)))]) (fun i=>[(0,⟨199,cellM k A i⟩)]) (fun i=>i≤A.length) (fun i=>A.length-i) 0 ?_ ?_ (Nat.zero_le _) ?_ ?_ ?_
 ·simp
 ·simp
 ·simp
 ·simp [hlow]
 rintro i hi
 simp
 by_cases h:i=A.length
 ·subst h
  refine G0 ?_;try with_reducible exact tt
  refine AW.cond rfl (fun h=>?_) (fun h=>?_)
  ·simp at h
  refine AW.exit ?_
  (try (simp -implicitDefEqProofs;try simp (disch:=omega) only [w64,wu64]))
  have hl:(movedL k 0 A).length=A.length+1:=o_ji _ _ _
  rw [cellM,o_l5]
  generalize movedL k 0 A=ws at hl
  refine AW.freeze 0 1 ⟨199,_⟩ (ws.map fun x:Nat=>.int .u64 x) (by rfl) (by simp) ?_
  simp [←hl,List.take_of_length_le]
  refine G0 ?_;try with_reducible exact tt
 ·have hi':i<A.length:=by omega
  have hp:(i:Int)<A.length:=by omega
  obtain ⟨c,y,u,hl,hq,hor,hw,hd,hset⟩:∃c z u:Nat,(cellM k A i).length=A.length+1∧(cellM k A i)[i]?=some (.d (.int .u64 c))∧bits BinOp.or IntKind.u64 (c:Int) (IntKind.u64.wrap ((A[i]:Int)*2^k))=(z:Int) ∧
    True∧(A[i]:Int)/2^(64-k)=(u:Int)∧((cellM k A i).set i (.d (.int .u64 z))).set (i+1) (.d (.int .u64 u))=cellM k A (i+1):=by
   have hl:=o_l3 k A i hi
   have hc:=o_jq (k:=k) (l:=A.take i) (c:=0) (hs.take i) (Nat.two_pow_pos k)
   have hset:=o_l7 k A i hi'
   rw [←o_kf hi'] at hset
   refine ⟨movedC k 0 (A.take i),A[i]*2^k%18446744073709551616+movedC k 0 (A.take i),A[i]*2^k/18446744073709551616,by simp [cellM,U,hl],?_,?_,trivial,?_,?_⟩
   ·have:=o_l6 k A i hi'
    rw [List.getD,List.getElem?_eq_getElem (by omega)] at this
    rw [cellM,U,List.getElem?_map,List.getElem?_eq_getElem (by omega)]
    simp at this
    simp [this]
   ·rw [show IntKind.u64.wrap ((A[i]:Int)*2^k)=((A[i]*2^k%18446744073709551616:Nat):Int) by rw [IntKind.wrap_u64,Int.natCast_emod,Int.natCast_mul,Int.natCast_pow];rfl]
    rw [bits_or_u64_nat _ _ (Nat.lt_of_lt_of_le hc (by rw [show (18446744073709551616:Nat)=2^64 by rfl];exact Nat.pow_le_pow_right (by decide) (by omega))) (Nat.mod_lt _ (by decide)),o_jr hk hc]
   ·rw [o_js (by omega),Int.natCast_ediv,Int.natCast_pow];rfl
   ·rw [cellM,cellM,←hset,U,U,List.map_set,List.map_set]
  have hn:((64:Int)-k).toNat=64-k:=by omega
  have e1:IntKind.i64.wrap ((i:Int)+1)=(i:Int)+1:=w64 (by omega) (by omega)
  have e2:IntKind.i64.wrap ((64:Int)-k)=(64:Int)-k:=w64 (by omega) (by omega)
  generalize cellM k A i=cm at hl hq hset
  refine G1 (fs hi' hp) ?_;try with_reducible exact tt
  refine AW.cond rfl (fun h=>?_) (fun h=>?_)
  ·clear h
   refine G1 (fs hi' (fs hp (fs hl (fs hq (fs hor (fs e1 (fs e2 (fs hn (fs hd hset))))))))) ?_;try with_reducible exact tt
   exact ⟨i+1,by omega,by omega,by simp [wk],by simp [wkH,hlow]⟩
  ·simp at h
end
section
open Go.RowKit
theorem o_la (n:Nat):(words n).length=size n:=rfl

set_option maxHeartbeats 1000000 in
theorem o_lb (a n:Nat) (ha:size a≤1000000) (hn:n≤8192):Eqn Tryz.prog o_fs [.d (.agg [natW a]),.d (.int .i64 n)] [] (.tup [.d (.agg [natW (a*2^n)]),.d (.int .i64 0)]) []:=by
 refine Eqn.pure o_fu (o_kw _ _) ?_
 refine cc (c':=?z8) ?_ ?_
 case refine_1=>cbv<;>exact rfl
 try simp only [natW,W]
 have h1:¬(n:Int)<0:=by omega
 have h2:¬(8192:Int)<n:=by omega
 refine G1 (fs h1 h2) ?_;try with_reducible exact tt
 refine AW.cond rfl (fun h=>?_) (fun h=>?_)
 ·simp [h1,h2] at h
 have hq:(n:Int)/64=(n/64:Nat):=rfl
 have hr:(n:Int).tmod 64=(n%64:Nat):=by rw [Int.tmod_eq_emod_of_nonneg (by omega)];rfl
 have hd:n/64≤128:=by omega
 have hm:n%64<64:=by omega
 have hv:∀l:List Nat,wval l=a→wval (List.replicate (n/64) 0++movedL (n%64) 0 l)=a*2^n:=by
  intro l hl
  rw [o_ja,o_jb,o_jj,List.length_replicate,hl,Nat.zero_add,Nat.add_zero]
  rw [show (18446744073709551616:Nat)=2^64 by rfl,←Nat.pow_mul,Nat.mul_left_comm,←Nat.pow_add,Nat.div_add_mod]
 replace hv:=hv (words a) (o_k7 a)
 have hsm:small (List.replicate (n/64) 0++movedL (n%64) 0 (words a)):=by
  intro x hx
  rcases List.mem_append.1 hx with hx | hx
  ·rw [List.eq_of_mem_replicate hx];omega
  ·exact o_jk hm (o_k8 a) (Nat.two_pow_pos _) x hx
 have hl:=o_ji (n%64) (words a) 0
 generalize n/64=q at *
 generalize n%64=r at *
 unfold size at ha
 refine G1 (fs hq hr) ?_;try with_reducible exact tt
 refine CallS.pu (o_l9 (words a) r hm (o_k8 a) (by omega)) ?_
 (try (simp -implicitDefEqProofs [W,hl];try simp (disch:=omega) only [w64,wu64]))
 repeat (first | refine AW.seq ?_ | refine AW.block ?_ | (refine AW.reg mix ?_;simp -implicitDefEqProofs [W,hl];try simp (disch:=omega) only [w64,wu64]) | (refine need.of (by first | omega | kernel_rfl) ?_) | (refine AW.fin ?_;try simp -implicitDefEqProofs [W,hl]))
 have hlen:(List.replicate q 0++movedL r 0 (words a)).length=q+((words a).length+1):=by simp [hl]
 have hcell:List.replicate q (V.d (.int .u64 0))++List.map (V.d ∘ fun x:Nat=>D.int .u64 x) (movedL r 0 (words a))=((List.replicate q 0++movedL r 0 (words a)).map fun x:Nat=>D.int .u64 x).map V.d:=by simp
 rw [hcell]
 generalize List.replicate q 0++movedL r 0 (words a)=ws at *
 have hlen2:q+((words a).length+1)=ws.length:=hlen.symm
 refine CallS.pf 3 1 ⟨199,_⟩ (ws.map fun x:Nat=>.int .u64 x) (o_kg ws hsm (by omega)) (by first | rfl | (simp [natW,W,hlen2,List.take_of_length_le];done)) ?_
 (try (simp -implicitDefEqProofs [natW,W,hlen2,List.take_of_length_le];try simp (disch:=omega) only [w64,wu64]))
 repeat (first | refine AW.seq ?_ | refine AW.block ?_ | (refine AW.reg mix ?_;simp -implicitDefEqProofs [natW,W,hlen2,List.take_of_length_le];try simp (disch:=omega) only [w64,wu64]) | (refine need.of (by first | omega | kernel_rfl) ?_) | (refine AW.fin ?_;try simp -implicitDefEqProofs [natW,W,hlen2,List.take_of_length_le]))
 refine Sub1.of ?_
 rw [hv]
end
section
open Go.RowKit
theorem o_lc {x:Nat} (h0:0<x) (h:x<18446744073709551616):words x=[x]:=by
 have:=o_ka (ws:=[x]) (by intro y hy;simp at hy;omega) (by intro k hk;simp at hk;subst hk;simp;omega)
 simpa [wval] using this
theorem o_ld {x:Nat} (h:x<18446744073709551616):small [x]:=by intro y hy;simp at hy;omega

theorem Sub1.tup {l r:List V} (h:Subs l r):Sub1 (.tup l) (.tup r):=fun m v k=>by
 unfold V.rep at k ⊢
 obtain ⟨vs,h1,h2⟩:=k
 exact ⟨vs,h1,h m vs h2⟩
theorem Subs.cons {x y:V} {l r:List V} (h:Sub1 x y) (h':Subs l r):Subs (x::l) (y::r):=fun m vs k=>by
 obtain ⟨v,r,rfl,h1,h2⟩:=V.reps_cons'.1 k
 exact V.reps_cons.2 ⟨h m v h1,h' m r h2⟩
theorem Sub1.nat0:Sub1 (.d (.agg [.nilsl])) (.d (.agg [natW 0])):=fun m v k=>by
 rw [V.rep_d] at k ⊢
 unfold D.rep at k ⊢
 obtain ⟨vs,h1,h2,h3⟩:=k
 refine ⟨vs,h1,h2,?_⟩
 obtain ⟨u,r,rfl,h4,h5⟩:=D.reps_cons'.1 h3
 have:=(V.rep_d (m:=m)).1 (Sub1.nil m u (V.rep_d.2 h4))
 exact D.reps_cons.2 ⟨this,h5⟩

theorem o_le {m n:Nat}:cmpZ m n<0↔m<n:=by unfold cmpZ;split<;>(try split)<;>omega
theorem o_lf (x y:Nat) (hx:x<18446744073709551616) (h0:0<y):Eqn Tryz.prog o_fd [.d (.int .u64 0),.d (.int .u64 x),.d (.int .u64 y)] [] (.tup [.d (.int .u64 (x/y:Nat)),.d (.int .u64 (x%y:Nat))]) []:=by
 refine Eqn.pure o_ff (o_kw _ _) ?_
 refine cc (c':=?z9) ?_ ?_
 case refine_1=>cbv<;>exact rfl
 have h1:¬(y:Int)=0:=by omega
 have h1':¬y=0:=by omega
 have h2:¬(y:Int)≤0:=by omega
 refine G1 (fs h1 (fs h2 h1')) ?_;try with_reducible exact tt
 refine AW.cond rfl (fun h=>?_) (fun h=>?_)
 ·simp [h1'] at h
 refine G1 (fs h1 (fs h2 h1')) ?_;try with_reducible exact tt
 refine AW.cond rfl (fun h=>?_) (fun h=>?_)
 ·simp [h1',h2] at h
 refine G1 (fs h1 (fs h2 h1')) ?_;try with_reducible exact tt
 refine AW.cond rfl (fun h=>?_) (fun h=>?_)
 ·have hle:=Nat.div_le_self x y
  have e1:IntKind.u64.wrap ((x:Int)/y)=(x:Int)/y:=by
   rw [←Int.natCast_ediv]
   generalize x/y=q at *
   exact wu64 (by omega) (by omega)
  have e2:(x:Int).tmod y=((x%y:Nat):Int):=by rw [Int.tmod_eq_emod_of_nonneg (by omega)];rfl
  refine G1 (fs h1 (fs h2 (fs h1' (fs e1 e2)))) ?_;try with_reducible exact tt
 ·simp at h

theorem o_lg (x y:Nat) (hx:x<18446744073709551616) (h0:0<y) (hy:y<18446744073709551616):Eqn Tryz.prog o_d4 [.d (.sl 1 [.int .u64 x]),.d (.int .u64 y)] [] (.tup [.d (.sl 1 [.int .u64 (x/y:Nat)]),.d (.int .u64 (x%y:Nat))]) []:=by
 refine Eqn.pure o_d6 (o_kw _ _) ?_
 refine cc (c':=?z10) ?_ ?_
 case refine_1=>cbv<;>exact rfl
 refine G0 ?_;try with_reducible exact tt
 refine AW.loopT (α:=Nat) 1 (fun i=>[(8,.d (.int .i64 ((i:Int)-1))),(7,.d (.int .u64 (if i=0 then (x%y:Nat) else 0)))]) (fun i=>[(0,⟨199,[.d (.int .u64 (if i=0 then (x/y:Nat) else 0))]⟩)]) (fun i=>i≤1) (fun i=>i) 1 ?_ ?_ (Nat.le_refl _) ?_ ?_ ?_
 ·simp
 ·simp
 ·simp
 ·simp
 rintro i hi
 simp
 cases i with
 | zero =>
  refine G0 ?_;try with_reducible exact tt
  refine AW.cond rfl (fun h=>?_) (fun h=>?_)
  ·simp at h
  refine AW.exit ?_
  (try (simp -implicitDefEqProofs;try simp (disch:=omega) only [w64,wu64]))
  refine AW.freeze 0 1 ⟨199,_⟩ [.int .u64 (x/y:Nat)] (by rfl) (by simp) ?_
  simp
  refine G0 ?_;try with_reducible exact tt
 | succ i =>
  obtain rfl:i=0:=by omega
  refine G0 ?_;try with_reducible exact tt
  refine AW.cond rfl (fun h=>?_) (fun h=>?_)
  ·refine G0 ?_;try with_reducible exact tt
   refine CallS.pu (o_lf x y hx h0) (R0 ?_);try with_reducible exact tt
   exact ⟨0,by omega,rfl,by simp,by simp⟩
  ·simp at h

theorem o_lh (a b:Nat) (ha:a<18446744073709551616) (h0:0<b) (hb:b<18446744073709551616):Eqn Tryz.prog o_dj [.d (.agg [natW a]),.d (.agg [natW b])] [] (.tup [.d (.agg [natW (a/b)]),.d (.agg [natW (a%b)]),.d (.int .i64 0)]) []:=by
 refine Eqn.pure o_dl (o_kx _ _ _) ?_
 have sa:size a≤1:=by
  rw [size]
  rcases Nat.eq_zero_or_pos a with rfl | h
  ·simp [words,wordsF]
  ·rw [o_lc h ha];simp
 have sb:size b≤1:=by rw [size,o_lc h0 hb];simp
 refine cc (c':=?z11) ?_ ?_
 case refine_1=>cbv<;>exact rfl
 refine G0 ?_;try with_reducible exact tt
 refine CallS.pu (o_ki b) (R0 ?_);try with_reducible exact tt
 have hz:(b==0)=false:=by simp;omega
 refine AW.cond rfl (fun h=>?_) (fun h=>?_)
 ·simp [hz] at h
 refine G0 ?_;try with_reducible exact tt
 refine CallS.pu (o_kk a b (by omega) (by omega)) (R0 ?_);try with_reducible exact tt
 refine AW.cond rfl (fun h=>?_) (fun h=>?_)
 ·have hlt:a<b:=by simpa [o_le] using h
  rw [Nat.div_eq_of_lt hlt,Nat.mod_eq_of_lt hlt]
  refine G0 ?_;try with_reducible exact tt
  refine CallS.pu (o_kh (words a) (o_k8 a) (by unfold size at sa;omega)) (R0 ?_);try with_reducible exact tt
  rw [o_k7]
  exact Sub1.tup (Subs.cons (Sub1.nat0) (Subs.refl _))
 ·have hge:¬a<b:=fun hlt=>by simp [o_le,hlt] at h
  have e:natW a = .sl 1 [.int .u64 a]:=by rw [natW,o_lc (by omega) ha];rfl
  have e':natW b = .sl 1 [.int .u64 b]:=by rw [natW,o_lc (by omega) hb];rfl
  refine G1 (fs e e') ?_;try with_reducible exact tt
  refine AW.cond rfl (fun h=>?_) (fun h=>?_)
  ·refine G1 (fs e e') ?_;try with_reducible exact tt
   refine CallS.pu (o_lg a b ha h0 hb) (R0 ?_);try with_reducible exact tt
   refine CallS.pu (o_kg [a/b] (o_ld (by have:=Nat.div_le_self a b;omega)) (by simp)) (R0 ?_);try with_reducible exact tt
   refine CallS.pf 4 1 ⟨199,_⟩ [.int .u64 (a%b:Nat)] (o_kh [a%b] (o_ld (by have:=Nat.mod_lt a h0;omega)) (by simp)) (by first | rfl | (simp;done)) (R0 ?_);try with_reducible exact tt
   simp [wval]
  ·simp [e'] at h
theorem o_li (a b:Nat) (ha:a<18446744073709551616) (hb:b<18446744073709551616):Eqn Tryz.prog o_dg [.d (.agg [natW a]),.d (.agg [natW b])] [] (.d (.agg [natW (Nat.gcd a b)])) []:=by
 refine Eqn.pure o_di (o_5d _) ?_
 refine cc (c':=?z12) ?_ ?_
 case refine_1=>cbv<;>exact rfl
 refine G0 ?_;try with_reducible exact tt
 refine AW.loopT (α:=Nat×Nat) 3 (fun _=>[]) (fun p=>[(0,⟨43,[.d (natW p.1)]⟩),(1,⟨43,[.d (natW p.2)]⟩)]) (fun p=>p.1<18446744073709551616∧p.2<18446744073709551616∧Nat.gcd p.1 p.2=Nat.gcd a b) (fun p=>p.2) (a,b) ?_ ?_ ⟨ha,hb,rfl⟩ ?_ ?_ ?_
 ·simp
 ·simp
 ·simp
 ·simp
 rintro ⟨x,y⟩ ⟨hx,hy,hg⟩
 simp only at hx hy hg
 simp
 refine G0 ?_;try with_reducible exact tt
 refine CallS.pu (o_ki y) (R0 ?_);try with_reducible exact tt
 by_cases h0:y=0
 ·subst h0
  simp
  refine AW.cond rfl (fun h=>?_) (fun h=>?_)
  ·simp at h
  refine AW.exit ?_
  (try (simp -implicitDefEqProofs;try simp (disch:=omega) only [w64,wu64]))
  have sx:size x≤1:=by
   rw [size]
   rcases Nat.eq_zero_or_pos x with rfl | h
   ·simp [words,wordsF]
   ·rw [o_lc h hx];simp
  refine G0 ?_;try with_reducible exact tt
  refine CallS.pu (o_kh (words x) (o_k8 x) (by unfold size at sx;omega)) (R0 ?_);try with_reducible exact tt
  refine Sub1.of ?_
  rw [o_k7,←hg,Nat.gcd_zero_right]
 ·refine AW.cond rfl (fun h=>?_) (fun h=>?_)
  ·refine G0 ?_;try with_reducible exact tt
   refine CallS.pu (o_lh x y hx (by omega) hy) (R0 ?_);try with_reducible exact tt
   have hlt:=Nat.mod_lt x (show y>0 by omega)
   exact ⟨y,x%y,⟨hy,by omega,by rw [←hg,Nat.gcd_comm y,←Nat.gcd_rec,Nat.gcd_comm]⟩,hlt,Subs.refl _,Subs.refl _⟩
  ·simp at h
   exact absurd h h0
end
section
def bitsN (n:Nat):Nat:=if n=0 then 0 else Nat.log2 n+1
theorem o_lj (n:Nat):n<2^bitsN n:=by
 unfold bitsN
 split
 ·omega
 ·exact Nat.lt_log2_self
theorem o_lk {n k:Nat} (h:n<2^k):bitsN n≤k:=by
 unfold bitsN
 split
 ·omega
 ·rename_i h0
  have:=(Nat.log2_lt h0).2 h
  omega
def moreY (s t:Nat):Nat:=t+(if t/2^s*2^s<t then t/2^s+1 else t/2^s)
def shiftY (s t:Nat):Nat:=bitsN t-1-2*s
structure Pl where
 x:Nat
 shift:Nat
 value:Nat
 reply:Nat
def nextY (s:Nat) (p:Pl):Pl:=if p.reply≤p.value+2^p.shift then ⟨p.x+1,shiftY s (moreY s p.reply),p.value+2^p.shift,moreY s p.reply⟩ else ⟨p.x,p.shift,p.value+2^p.shift,p.reply⟩
def placeY (s:Nat):Nat→Pl
 | 0=>⟨0,0,0,2^(2*s)⟩
 | k+1=>nextY s (placeY s k)

theorem o_ll {n k:Nat} (h:2^k≤n):bitsN n=k+bitsN (n/2^k):=by
 have hp:=Nat.two_pow_pos k
 have hq:0<n/2^k:=Nat.div_pos h hp
 have h1:=o_lj (n/2^k)
 have h2:2^(bitsN (n/2^k)-1)≤n/2^k:=by
  unfold bitsN
  rw [if_neg (by omega),Nat.add_sub_cancel]
  exact Nat.log2_self_le (by omega)
 have h3:0<bitsN (n/2^k):=by unfold bitsN;rw [if_neg (by omega)];omega
 apply Nat.le_antisymm
 ·apply o_lk
  rw [Nat.pow_add,Nat.mul_comm]
  exact (Nat.div_lt_iff_lt_mul hp).1 h1
 ·apply Nat.le_of_not_lt
  intro hlt
  have h4:=o_lj n
  have h5:2^bitsN n≤2^(k+(bitsN (n/2^k)-1)):=Nat.pow_le_pow_right (by omega) (by omega)
  rw [Nat.pow_add] at h5
  have h6:2^k*2^(bitsN (n/2^k)-1)≤n:=by
   rw [Nat.mul_comm];exact Nat.le_trans (Nat.mul_le_mul_right _ h2) (Nat.div_mul_le_self _ _)
  omega
theorem o_lm {n:Nat} (h:0<n):2^(bitsN n-1)≤n∧0<bitsN n:=by
 unfold bitsN
 rw [if_neg (by omega),Nat.add_sub_cancel]
 exact ⟨Nat.log2_self_le (by omega),by omega⟩

theorem o_ln {s t:Nat} (hs:1≤s) (ht:2≤t):moreY s t≤2*t:=by
 unfold moreY
 have h2:2≤2^s:=by
  calc 2=2^1:=by decide
   _≤2^s:=Nat.pow_le_pow_right (by decide) hs
 have h1:t/2^s≤t/2:=Nat.div_le_div_left h2 (by decide)
 split<;>omega

theorem o_lo {s:Nat} (hs:1≤s):∀k,4≤(placeY s k).reply∧(placeY s k).reply≤2^(2*s+k)∧(placeY s k).shift≤2*s+k∧(placeY s k).value≤k*2^(2*s+k)∧(placeY s k).x≤k:=by
 intro k
 induction k with
 | zero =>
  simp only [placeY]
  have:2^2≤2^(2*s):=Nat.pow_le_pow_right (by decide) (by omega)
  rw [Nat.add_zero]
  omega
 | succ k ih =>
  obtain ⟨h1,h2,h3,h4,h5⟩:=ih
  have hp:2^(2*s+(k+1))=2*2^(2*s+k):=by rw [show 2*s+(k+1)=2*s+k+1 by omega,Nat.pow_succ];omega
  have hm:=o_ln hs (show 2≤(placeY s k).reply by omega)
  have hm4:(placeY s k).reply≤moreY s (placeY s k).reply:=by unfold moreY;omega
  have hsh:2^(placeY s k).shift≤2^(2*s+k):=Nat.pow_le_pow_right (by decide) h3
  have hv:(placeY s k).value+2^(placeY s k).shift≤(k+1)*2^(2*s+(k+1)):=by
   rw [hp,Nat.add_mul,Nat.one_mul,Nat.mul_left_comm]
   generalize 2^(2*s+k)=P at *
   generalize k*P=Q at *
   omega
  have hb:bitsN (moreY s (placeY s k).reply)≤2*s+(k+1)+1:=o_lk (by
   rw [Nat.pow_succ,hp]
   have:0<2^(2*s+k):=Nat.pow_pos (by decide)
   omega)
  simp only [placeY,nextY]
  split
  ·refine ⟨by simp only;omega,by simp only;omega,?_,hv,by simp only;omega⟩
   simp only [shiftY]
   omega
  ·refine ⟨by simp only;omega,by simp only;omega,by simp only;omega,hv,by simp only;omega⟩
end
section
set_option maxRecDepth 10000
theorem o_lp {y1 y0 u u1 q r:Nat} (e:q*y1+r=u) (hle:q*y0≤r*4294967296+u1) (hgt:u*4294967296+u1<(q+1)*(y1*4294967296+y0)) :
  (u*4294967296+u1)/(y1*4294967296+y0)=q:=by
 have h1:q*(y1*4294967296+y0)≤u*4294967296+u1:=by
  rw [Nat.mul_add,←Nat.mul_assoc,←e,Nat.add_mul]
  omega
 have hpos:0<y1*4294967296+y0:=by
  rcases Nat.eq_zero_or_pos (y1*4294967296+y0) with h | h
  ·rw [h] at hgt;omega
  ·exact h
 exact Nat.div_eq_of_lt_le h1 hgt
theorem lin (a r u u1 b z:Nat) (e:a+r=u) (hc:r*b+u1<z):u*b+u1<a*b+z:=by
 subst e;rw [Nat.add_mul];omega
theorem o_lq {y1 y0 u u1 q r:Nat} (e:q*y1+r=u) (hu:u<y1*4294967296+y0) (hu1:u1<4294967296) (hc:4294967296≤q∨r*4294967296+u1<q*y0) :
  0<q∧(q-1)*y1+(r+y1)=u∧u*4294967296+u1<(q-1+1)*(y1*4294967296+y0):=by
 have hq:0<q:=by
  rcases Nat.eq_zero_or_pos q with h | h
  ·subst h;omega
  ·exact h
 have e1:(q-1)*y1+y1=q*y1:=by
  obtain ⟨k,rfl⟩:∃k,q=k+1:=⟨q-1,by omega⟩
  rw [Nat.add_sub_cancel,Nat.add_mul,Nat.one_mul]
 have e2:q-1+1=q:=by omega
 rw [e2]
 refine ⟨hq,by omega,?_⟩
 rcases hc with hc | hc
 ·have h1:(y1*4294967296+y0)*4294967296≤(y1*4294967296+y0)*q:=Nat.mul_le_mul_left _ hc
  rw [Nat.mul_comm q]
  obtain ⟨p,hp⟩:∃p,p=(y1*4294967296+y0)*q:=⟨_,rfl⟩
  rw [←hp] at h1 ⊢
  clear hp e1
  omega
 ·rw [Nat.mul_add,←Nat.mul_assoc]
  obtain ⟨a,ha⟩:∃a,a=q*y1:=⟨_,rfl⟩
  rw [←ha] at e ⊢
  exact lin a r u u1 _ _ e hc
theorem o_lr {y1 y0 u q r:Nat} (e:q*y1+r=u) (hu:u<y1*4294967296+y0) (hy0:y0<4294967296) (hr:4294967296≤r) (u1:Nat):q*y0≤r*4294967296+u1:=by
 have hq:q<4294967296:=by
  apply Nat.lt_of_not_le
  intro h
  have:4294967296*y1≤q*y1:=Nat.mul_le_mul_right y1 h
  omega
 have:q*y0≤4294967295*4294967295:=Nat.mul_le_mul (by omega) (by omega)
 omega
theorem o_ls {y1 y0 u u1:Nat} (h1:0<y1) (hu1:u1<4294967296):u*4294967296+u1<(u/y1+1)*(y1*4294967296+y0):=by
 have h:=Nat.lt_mul_div_succ u h1
 rw [Nat.mul_comm] at h
 have h2:(u/y1+1)*(y1*4294967296)≤(u/y1+1)*(y1*4294967296+y0):=Nat.mul_le_mul_left _ (by omega)
 rw [←Nat.mul_assoc] at h2
 generalize (u/y1+1)*y1=a at *
 omega

theorem halves' {y a b v0 q1 q0:Nat} (hy:0<y) (h1:a/y=q1) (h0:((a-q1*y)*b+v0)/y=q0) :
  (a*b+v0)/y=q1*b+q0∧(a*b+v0)%y=(a-q1*y)*b+v0-q0*y:=by
 have a1:=Nat.div_add_mod a y
 have b1:=Nat.mod_lt a hy
 rw [h1,Nat.mul_comm] at a1
 obtain ⟨r1,hr1⟩:∃r,r=a%y:=⟨_,rfl⟩
 rw [←hr1] at a1 b1
 have e1:a-q1*y=r1:=by omega
 rw [e1] at h0 ⊢
 have a0:=Nat.div_add_mod (r1*b+v0) y
 have b0:=Nat.mod_lt (r1*b+v0) hy
 rw [h0,Nat.mul_comm] at a0
 obtain ⟨r0,hr0⟩:∃r,r=(r1*b+v0)%y:=⟨_,rfl⟩
 rw [←hr0] at a0 b0
 have e0:r1*b+v0-q0*y=r0:=by omega
 rw [e0]
 have hN:a*b+v0=(q1*b+q0)*y+r0:=by
  have hp:q1*b*y=q1*y*b:=Nat.mul_right_comm _ _ _
  rw [Nat.add_mul,hp,←a1,Nat.add_mul]
  omega
 rw [hN]
 exact ⟨by rw [Nat.mul_comm,Nat.mul_add_div hy,Nat.div_eq_of_lt b0,Nat.add_zero],by rw [Nat.mul_comm,Nat.mul_add_mod];exact Nat.mod_eq_of_lt b0⟩

theorem o_lt {n y s:Nat}:n*2^s/(y*2^s)=n/y∧n*2^s%(y*2^s)/2^s=n%y:=by
 have hp:=Nat.two_pow_pos s
 refine ⟨Nat.mul_div_mul_right _ _ hp,?_⟩
 rw [Nat.mul_mod_mul_right,Nat.mul_div_cancel _ hp]

theorem o_lu {U D B P u1 d1:Nat} (hB:0<B) (hP:0<P) (hU:U/P=u1) (hD:d1*P≤D) (hd:0<d1):U/D≤u1/d1:=by
 rw [Nat.le_div_iff_mul_le hd]
 have hD0:0<D:=Nat.lt_of_lt_of_le (Nat.mul_pos hd hP) hD
 have h1:U/D*D≤U:=Nat.div_mul_le_self U D
 rw [←hU,Nat.le_div_iff_mul_le hP]
 calc U/D*d1*P=U/D*(d1*P):=Nat.mul_assoc _ _ _
  _≤U/D*D:=Nat.mul_le_mul_left _ hD
  _≤U:=h1

theorem o_lv {U D g w P M:Nat} (hM:M=18446744073709551616*P) (hD:D<P) (hD0:0<D) (hg:g≤18446744073709551615) (hw:w<M) (e:w+g*D=U+M) :
  0<g∧(M≤w+D→w+D-M+(g-1)*D=U∧w+D-M<D∧U/D=g-1∧U%D=w+D-M)∧(w+D<M→w+D+(g-1)*D=U+M∧P≤w+D):=by
 have hg0:0<g:=by
  rcases Nat.eq_zero_or_pos g with h | h
  ·subst h;omega
  ·exact h
 have e1:(g-1)*D+D=g*D:=by
  obtain ⟨k,rfl⟩:∃k,g=k+1:=⟨g-1,by omega⟩
  rw [Nat.add_sub_cancel,Nat.add_mul,Nat.one_mul]
 have e2:(g-1)*D≤18446744073709551614*P:=Nat.mul_le_mul (by omega) (by omega)
 obtain ⟨x,hx⟩:∃x,x=(g-1)*D:=⟨_,rfl⟩
 obtain ⟨y,hy⟩:∃y,y=g*D:=⟨_,rfl⟩
 refine ⟨hg0,fun h=>?_,fun h=>?_⟩
 ·have h1:w+D-M+(g-1)*D=U:=by rw [←hx] at e1 ⊢;rw [←hy] at e e1;clear hx hy e2;omega
  have h2:w+D-M<D:=by omega
  refine ⟨h1,h2,?_,?_⟩
  ·rw [←h1,Nat.add_mul_div_right _ _ hD0,Nat.div_eq_of_lt h2,Nat.zero_add]
  ·rw [←h1,Nat.add_mul_mod_self_right];exact Nat.mod_eq_of_lt h2
 ·rw [←hx] at e1 e2 ⊢;rw [←hy] at e e1
  clear hx hy
  subst hM
  constructor
  ·omega
  ·omega
theorem o_lw {U D g w:Nat} (hD0:0<D) (hg:U/D≤g) (e:w+g*D=U):U/D=g∧U%D=w:=by
 have h:g≤U/D:=by rw [Nat.le_div_iff_mul_le hD0];omega
 have hq:U/D=g:=Nat.le_antisymm hg h
 have:=Nat.div_add_mod U D
 rw [hq,Nat.mul_comm] at this
 exact ⟨hq,by omega⟩

def shrL (k:Nat):List Nat→List Nat
 | []=>[]
 | x::l=>(x/2^k+l.getD 0 0*2^(64-k)%18446744073709551616)::shrL k l
theorem o_lx (k:Nat):∀l,(shrL k l).length=l.length
 | []=>rfl
 | x::l=>by simp [shrL,o_lx k l]
theorem o_ly:∀l:List Nat,small l→wval l%18446744073709551616=l.getD 0 0
 | [],_=>rfl
 | x::l,h=>by
  have:=h x (by simp)
  simp only [wval,List.getD_cons_zero]
  omega
theorem o_lz {k:Nat} (hk:k<64):∀l:List Nat,small l→wval (shrL k l)=wval l/2^k∧small (shrL k l)
 | [],_=>⟨by simp [shrL,wval],by simp [shrL,small]⟩
 | x::l,h=>by
  have hl:small l:=fun y hy=>h y (by simp [hy])
  obtain ⟨h1,h2⟩:=o_lz hk l hl
  have hx:=h x (by simp)
  have hhd:=o_ly l hl
  have hB:(18446744073709551616:Nat)=2^k*2^(64-k):=by rw [←Nat.pow_add,show k+(64-k)=64 by omega]
  have hp:=Nat.two_pow_pos k
  have hp':=Nat.two_pow_pos (64-k)
  -- the part that comes from above
  have h3:l.getD 0 0*2^(64-k)%18446744073709551616=wval l%2^k*2^(64-k):=by
   rw [hB,Nat.mul_mod_mul_right,←hhd]
   congr 1
   rw [hB,Nat.mod_mul_right_mod]
  have h4:wval (x::l)/2^k=x/2^k+2^(64-k)*wval l:=by
   rw [wval]
   conv=>lhs;rw [hB]
   rw [Nat.mul_assoc,Nat.add_mul_div_left _ _ hp]
  have h5:2^(64-k)*wval l=18446744073709551616*(wval l/2^k)+wval l%2^k*2^(64-k):=by
   conv=>lhs;rw [←Nat.div_add_mod (wval l) (2^k)]
   rw [Nat.mul_add,←Nat.mul_assoc,Nat.mul_comm (2^(64-k)) (2^k),←hB,Nat.mul_comm (2^(64-k))]
  have h6:x/2^k<2^(64-k):=by
   rw [Nat.div_lt_iff_lt_mul hp,Nat.mul_comm,←hB];exact hx
  have h7:wval l%2^k*2^(64-k)+2^(64-k)≤18446744073709551616:=by
   have:=Nat.mul_le_mul_right (2^(64-k)) (Nat.succ_le_of_lt (Nat.mod_lt (wval l) hp))
   rw [Nat.succ_mul,←hB] at this
   exact this
  refine ⟨?_,?_⟩
  ·rw [h4,h5,shrL,wval,h1,h3]
   omega
  ·intro y hy
   rw [shrL,List.mem_cons] at hy
   rcases hy with rfl | hy
   ·rw [h3];omega
   ·exact h2 y hy
theorem o_m0:∀(q:Nat) (l:List Nat),small l→wval (l.drop q)=wval l/18446744073709551616^q
 | 0,l,_=>by simp
 | q+1,[],_=>by simp [wval]
 | q+1,x::l,h=>by
  have hx:=h x (by simp)
  rw [List.drop_succ_cons,o_m0 q l (fun y hy=>h y (by simp [hy])),wval,Nat.pow_succ,Nat.mul_comm (18446744073709551616^q),←Nat.div_div_eq_div_mul]
  congr 1
  omega
end
section
open Go.RowKit
theorem o_m1:∀i:Nat,i<256→(([0,1,2,2,3,3,3,3,4,4,4,4,4,4,4,4,5,5,5,5,5,5,5,5,5,5,5,5,5,5,5,5,6,6,6,6,6,6,6,6,6,6,6,6,6,6,6,6,6,6,6,6,6,6,6,6,6,6,6,6,6,6,6,6,7,7,7,7,7,7,7,7,7,7,7,7,7,7,7,7,7,7,7,7,7,7,7,7,7,7,7,7,7,7,7,7,7,7,7,7,7,7,7,7,7,7,7,7,7,7,7,7,7,7,7,7,7,7,7,7,7,7,7,7,7,7,7,7,8,8,8,8,8,8,8,8,8,8,8,8,8,8,8,8,8,8,8,8,8,8,8,8,8,8,8,8,8,8,8,8,8,8,8,8,8,8,8,8,8,8,8,8,8,8,8,8,8,8,8,8,8,8,8,8,8,8,8,8,8,8,8,8,8,8,8,8,8,8,8,8,8,8,8,8,8,8,8,8,8,8,8,8,8,8,8,8,8,8,8,8,8,8,8,8,8,8,8,8,8,8,8,8,8,8,8,8,8,8,8,8,8,8,8,8,8,8,8,8,8,8,8,8,8,8,8,8]:List UInt8)[i]?.getD 0).toNat=bitsN i:=by
 have h:((List.range 256).all fun i=>(([0,1,2,2,3,3,3,3,4,4,4,4,4,4,4,4,5,5,5,5,5,5,5,5,5,5,5,5,5,5,5,5,6,6,6,6,6,6,6,6,6,6,6,6,6,6,6,6,6,6,6,6,6,6,6,6,6,6,6,6,6,6,6,6,7,7,7,7,7,7,7,7,7,7,7,7,7,7,7,7,7,7,7,7,7,7,7,7,7,7,7,7,7,7,7,7,7,7,7,7,7,7,7,7,7,7,7,7,7,7,7,7,7,7,7,7,7,7,7,7,7,7,7,7,7,7,7,7,8,8,8,8,8,8,8,8,8,8,8,8,8,8,8,8,8,8,8,8,8,8,8,8,8,8,8,8,8,8,8,8,8,8,8,8,8,8,8,8,8,8,8,8,8,8,8,8,8,8,8,8,8,8,8,8,8,8,8,8,8,8,8,8,8,8,8,8,8,8,8,8,8,8,8,8,8,8,8,8,8,8,8,8,8,8,8,8,8,8,8,8,8,8,8,8,8,8,8,8,8,8,8,8,8,8,8,8,8,8,8,8,8,8,8,8,8,8,8,8,8,8,8,8,8,8,8,8]:List UInt8)[i]?.getD 0).toNat==bitsN i)=true:=by kernel_rfl
 intro i hi
 have:=List.all_eq_true.1 h i (List.mem_range.2 hi)
 exact eq_of_beq this

set_option maxHeartbeats 1000000 in
theorem o_m2 (x:Nat) (hx:x<18446744073709551616):Eqn Tryz.prog o_dy [.d (.int .u64 x)] [] (.d (.int .i64 (bitsN x))) []:=by
 refine Eqn.pure o_e0 (o_5d _) ?_
 refine cc (c':=?z13) ?_ ?_
 case refine_1=>cbv<;>exact rfl
 obtain ⟨x1,n1,h1,hx1,hn1,e1⟩:∃x1 n1:Nat,(x1,n1)=(if 4294967296≤x then (x/4294967296,32) else (x,0))∧x1<4294967296∧n1≤32∧bitsN x=n1+bitsN x1:=by
  by_cases h:4294967296≤x
  ·exact ⟨x/4294967296,32,by rw [if_pos h],by omega,by omega,o_ll (k:=32) h⟩
  ·exact ⟨x,0,by rw [if_neg h],by omega,by omega,by omega⟩
 obtain ⟨x2,n2,h2,hx2,hn2,e2⟩:∃x2 n2:Nat,(x2,n2)=(if 65536≤x1 then (x1/65536,n1+16) else (x1,n1))∧x2<65536∧n2≤48∧bitsN x=n2+bitsN x2:=by
  by_cases h:65536≤x1
  ·exact ⟨x1/65536,n1+16,by rw [if_pos h],by omega,by omega,by have:=o_ll (k:=16) h;rw [e1,this];simp;omega⟩
  ·exact ⟨x1,n1,by rw [if_neg h],by omega,by omega,by omega⟩
 obtain ⟨x3,n3,h3,hx3,hn3,e3⟩:∃x3 n3:Nat,(x3,n3)=(if 256≤x2 then (x2/256,n2+8) else (x2,n2))∧x3<256∧n3≤56∧bitsN x=n3+bitsN x3:=by
  by_cases h:256≤x2
  ·exact ⟨x2/256,n2+8,by rw [if_pos h],by omega,by omega,by have:=o_ll (k:=8) h;rw [e2,this];simp;omega⟩
  ·exact ⟨x2,n2,by rw [if_neg h],by omega,by omega,by omega⟩
 rw [e3]
 clear e1 e2 e3
 refine AW.seq (AW.reg mix ?_)
 (simp -implicitDefEqProofs;try simp (disch:=omega) only [w64,wu64])
 refine AW.cut 0 [(0,.d (.int .u64 x1)),(2,.d (.int .i64 n1))] [] (by simp) (by simp) ?_ ?_
 ·have hd:(x:Int)/4294967296=(x/4294967296:Nat):=rfl
  refine G0 ?_;try with_reducible exact tt
  refine AW.cond rfl (fun h=>?_) (fun h=>?_)
  ·rw [if_pos (by simp at h;omega)] at h1
   cases h1
   generalize x/4294967296=q at *
   refine G1 hd ?_;try with_reducible exact tt
  ·rw [if_neg (by simp at h;omega)] at h1
   cases h1
   refine G0 ?_;try with_reducible exact tt
 clear h1 hx
 simp
 refine AW.cut 0 [(0,.d (.int .u64 x2)),(2,.d (.int .i64 n2))] [] (by simp) (by simp) ?_ ?_
 ·have hd:(x1:Int)/65536=(x1/65536:Nat):=rfl
  have ew:IntKind.i64.wrap ((n1:Int)+16)=((n1+16:Nat):Int):=w64 (by omega) (by omega)
  refine G0 ?_;try with_reducible exact tt
  refine AW.cond rfl (fun h=>?_) (fun h=>?_)
  ·rw [if_pos (by simp at h;omega)] at h2
   cases h2
   generalize x1/65536=q at *
   refine G1 (fs hd ew) ?_;try with_reducible exact tt
  ·rw [if_neg (by simp at h;omega)] at h2
   cases h2
   refine G0 ?_;try with_reducible exact tt
 clear h2 hx1 hn1
 simp
 refine AW.cut 0 [(0,.d (.int .u64 x3)),(2,.d (.int .i64 n3))] [] (by simp) (by simp) ?_ ?_
 ·have hd:(x2:Int)/256=(x2/256:Nat):=rfl
  have ew:IntKind.i64.wrap ((n2:Int)+8)=((n2+8:Nat):Int):=w64 (by omega) (by omega)
  refine G0 ?_;try with_reducible exact tt
  refine AW.cond rfl (fun h=>?_) (fun h=>?_)
  ·rw [if_pos (by simp at h;omega)] at h3
   cases h3
   generalize x2/256=q at *
   refine G1 (fs hd ew) ?_;try with_reducible exact tt
  ·rw [if_neg (by simp at h;omega)] at h3
   cases h3
   refine G0 ?_;try with_reducible exact tt
 clear h3 hx2 hn2
 simp
 have ew1:IntKind.u8.wrap (x3:Int)=x3:=by rw [show IntKind.u8.wrap (x3:Int)=(x3:Int)%256 from rfl];omega
 have hb:=o_m1 x3 hx3
 have hB:bitsN x3≤8:=o_lk (by omega)
 have ew2:IntKind.i64.wrap (bitsN x3:Int)=bitsN x3:=w64 (by omega) (by omega)
 have ew3:IntKind.i64.wrap ((n3:Int)+bitsN x3)=(n3:Int)+bitsN x3:=w64 (by omega) (by omega)
 refine AW.seq (AW.reg mix ?_)
 simp [ew1,hb,ew2,ew3]
 refine need.of (Nat.lt_of_lt_of_le hx3 (by decide)) ?_
 refine G0 ?_;try with_reducible exact tt

theorem o_m3 (x:Nat) (hx:x<18446744073709551616):Eqn Tryz.prog o_fy [.d (.int .u64 x)] [] (.d (.int .i64 (64-bitsN x:Nat))) []:=by
 refine Eqn.pure o_g0 (o_5d _) ?_
 refine cc (c':=?z14) ?_ ?_
 case refine_1=>cbv<;>exact rfl
 have hB:bitsN x≤64:=o_lk (by omega)
 refine G0 ?_;try with_reducible exact tt
 refine CallS.pu (o_m2 x hx) (R0 ?_);try with_reducible exact tt
 exact Sub1.int (by omega)

theorem o_m4 {l:List Nat} {x:Nat} (hs:small l) (h0:0<x):bitsN (wval (l++[x]))=64*l.length+bitsN x:=by
 have hp:(18446744073709551616:Nat)^l.length=2^(64*l.length):=by rw [show (18446744073709551616:Nat)=2^64 by rfl,←Nat.pow_mul]
 have hlt:=o_jc hs
 have hv:wval (l++[x])=wval l+2^(64*l.length)*x:=by rw [o_ja,hp];simp [wval]
 rw [hp] at hlt
 rw [hv,o_ll (k:=64*l.length) (by have:=Nat.le_mul_of_pos_right (2^(64*l.length)) h0;omega),Nat.add_mul_div_left _ _ (Nat.two_pow_pos _),Nat.div_eq_of_lt hlt,Nat.zero_add]

theorem o_m5 (n:Nat) (hn:size n≤1000000):Eqn Tryz.prog o_gv [.d (.agg [natW n])] [] (.d (.int .i64 (bitsN n))) []:=by
 refine Eqn.pure o_gx (o_5d _) ?_
 refine cc (c':=?z15) ?_ ?_
 case refine_1=>cbv<;>exact rfl
 try simp only [natW,W]
 unfold size at hn
 have hs:=o_k8 n
 have ht:=o_k9 n
 have hv:=o_k7 n
 generalize words n=ws at *
 rcases List.eq_nil_or_concat ws with rfl | ⟨l,x,rfl⟩
 ·refine G0 ?_;try with_reducible exact tt
  refine AW.cond rfl (fun h=>?_) (fun h=>?_)
  ·refine G0 ?_;try with_reducible exact tt
   rw [←hv]
   exact Sub1.refl _
  ·simp at h
 ·rw [List.concat_eq_append] at *
  have hx0:0<x:=by
   have:=ht l.length (by simp)
   simp [List.getD] at this
   omega
  have hx:x<18446744073709551616:=hs x (by simp)
  have hb:=o_m4 (l:=l) (x:=x) (fun y hy=>hs y (by simp [hy])) hx0
  rw [hv] at hb
  have hB:bitsN x≤64:=o_lk (by omega)
  have hll:l.length≤1000000:=by simp at hn;omega
  have e1:IntKind.i64.wrap ((l.length:Int)+1-1)=(l.length:Int):=by rw [Int.add_sub_cancel];exact w64 (by omega) (by omega)
  have e2:IntKind.i64.wrap ((64:Int)*l.length)=((64*l.length:Nat):Int):=w64 (by omega) (by omega)
  have e0:IntKind.i64.wrap (l.length:Int)=(l.length:Int):=w64 (by omega) (by omega)
  have hne:¬(l.length:Int)+1=0:=by omega
  refine G1 (fs hne (fs e1 (fs e2 e0))) ?_;try with_reducible exact tt
  refine AW.cond rfl (fun h=>?_) (fun h=>?_)
  ·simp at h
   omega
  rw [hb]
  have e3:IntKind.i64.wrap (((64*l.length:Nat):Int)+bitsN x)=((64*l.length+bitsN x:Nat):Int):=w64 (by omega) (by omega)
  generalize 64*l.length=q at *
  refine G1 (fs hne (fs e1 (fs e2 e0))) ?_;try with_reducible exact tt
  refine CallS.pu (o_m2 x hx) (R1 e3 ?_);try with_reducible exact tt

theorem o_m6 (n:Nat) (l:List D) (hl:l.length=n) (h0:0<n) (hn:n≤4000000000):Eqn Tryz.prog o_e4 [.d (.sl n l)] [] (.own 0 1 n) [⟨199,l.map .d⟩]:=by
 refine Eqn.newX o_e6 rfl (o_5l _) (fun n=>rfl) ?_
 refine cc (c':=?z16) ?_ ?_
 case refine_1=>cbv<;>exact rfl
 refine G1 h0 ?_;try with_reducible exact tt
 refine AW.cond rfl (fun h=>?_) (fun h=>?_)
 ·simp at h
 ·refine G0 ?_;try with_reducible exact tt
  have h1:¬n=0:=by omega
  simp [h1,hl]
  refine need.of (by omega) ?_
  refine G0 ?_;try with_reducible exact tt
  exact ⟨0,Sub1.refl _,_,rfl,rfl,Subs.refl _⟩

def shrI (k:Nat) (A:List Nat) (i:Nat):List Nat:=(shrL k A).take i++A.drop i
theorem o_m7 (k:Nat):∀(A:List Nat) (i:Nat),i<A.length→(shrL k A).getD i 0=A.getD i 0/2^k+A.getD (i+1) 0*2^(64-k)%18446744073709551616
 | [],i,h=>by simp at h
 | x::l,0,h=>by simp [shrL]
 | x::l,i+1,h=>by
  have:=o_m7 k l i (by simpa using h)
  simpa [shrL] using this
theorem o_m8 (k:Nat) (A:List Nat) (i:Nat) (h:i≤A.length):(shrI k A i).length=A.length:=by
 rw [shrI,List.length_append,List.length_take,o_lx,List.length_drop];omega
theorem o_m9 (k:Nat) (A:List Nat) (i j:Nat) (h:i≤j) (hj:j<A.length):(shrI k A i)[j]?=some (A.getD j 0):=by
 rw [shrI,List.getElem?_append_right (by rw [List.length_take,o_lx];omega),List.length_take,o_lx,List.getElem?_drop,show i+(j-min i A.length)=j by omega]
 simp [List.getD,hj]
theorem o_ma (k:Nat) (A:List Nat) (i:Nat) (h:i<A.length) (y:Nat) (hy:y=(shrL k A).getD i 0):(shrI k A i).set i y=shrI k A (i+1):=by
 have hi:((shrL k A).take i).length=i:=by rw [List.length_take,o_lx];omega
 rw [shrI,shrI,List.set_append_right _ _ (by omega),hi,Nat.sub_self,o_jd _ _ (by rw [o_lx];exact h),←hy,List.append_assoc]
 congr 1
 rw [List.drop_eq_getElem_cons h]
 rfl
theorem o_mb (k:Nat) (A:List Nat):shrI k A A.length=shrL k A:=by
 rw [shrI,List.drop_length,List.append_nil,List.take_of_length_le (by rw [o_lx];omega)]

theorem o_mc {k x y:Nat} (hk:k<64) (hx:x<18446744073709551616):x/2^k ||| (y*2^(64-k)%18446744073709551616)=x/2^k+y*2^(64-k)%18446744073709551616:=by
 have hB:(18446744073709551616:Nat)=2^k*2^(64-k):=by rw [←Nat.pow_add,show k+(64-k)=64 by omega]
 have h6:x/2^k<2^(64-k):=by
  rw [Nat.div_lt_iff_lt_mul (Nat.two_pow_pos k),Nat.mul_comm,←hB];exact hx
 have e:y*2^(64-k)%18446744073709551616=2^(64-k)*(y%2^k):=by rw [hB,Nat.mul_mod_mul_right,Nat.mul_comm]
 rw [e,Nat.or_comm,←Nat.two_pow_add_eq_or_of_lt h6,Nat.add_comm]

set_option maxHeartbeats 2000000 in
theorem o_md (a n:Nat) (ha:size a≤1000000) (hn:n≤1000000000):Eqn Tryz.prog o_gj [.d (.agg [natW a]),.d (.int .i64 n)] [] (.d (.agg [natW (a/2^n)])) []:=by
 refine Eqn.pure o_gl (o_5d _) ?_
 refine cc (c':=?z17) ?_ ?_
 case refine_1=>cbv<;>exact rfl
 rw [show natW a = .sl (words a).length ((words a).map fun x:Nat=>.int .u64 x) from rfl]
 unfold size at ha
 have hs:=o_k8 a
 have hv:=o_k7 a
 generalize words a=ws at *
 have hm:max 0 (n:Int)=n:=by omega
 have hq:(n:Int)/64=(n/64:Nat):=rfl
 have hr:(n:Int).tmod 64=(n%64:Nat):=by rw [Int.tmod_eq_emod_of_nonneg (by omega)];rfl
 have hval:wval (shrL (n%64) (ws.drop (n/64)))=a/2^n∧small (shrL (n%64) (ws.drop (n/64))):=by
  obtain ⟨h1,h2⟩:=o_lz (k:=n%64) (by omega) (ws.drop (n/64)) (fun x hx=>hs x (List.mem_of_mem_drop hx))
  refine ⟨?_,h2⟩
  rw [h1,o_m0 _ _ hs,hv,show (18446744073709551616:Nat)=2^64 by rfl,←Nat.pow_mul,Nat.div_div_eq_div_mul,←Nat.pow_add,Nat.div_add_mod]
 have hmk:n%64<64:=by omega
 have hqn:n/64≤n:=Nat.div_le_self _ _
 generalize hk:n%64=k at *
 generalize n/64=q at *
 refine G1 (fs hm hq) ?_;try with_reducible exact tt
 refine AW.cond rfl (fun h=>?_) (fun h=>?_)
 ·have hlen:ws.length≤q:=by simp at h;omega
  refine G0 ?_;try with_reducible exact tt
  rw [List.drop_of_length_le hlen] at hval
  rw [←hval.1]
  exact Sub1.nat0
 ·have hlt:q<ws.length:=by simp at h;omega
  have hlt':(q:Int)<ws.length:=by omega
  have hb1:((ws.length:Int)-q).toNat=(ws.drop q).length:=by rw [List.length_drop];omega
  have hbp:0<(ws.drop q).length∧(ws.drop q).length≤1000000:=by rw [List.length_drop];omega
  have hsB:small (ws.drop q):=fun x hx=>hs x (List.mem_of_mem_drop hx)
  have htk:(V.d (.sl ((ws.length:Int)-q).toNat (((ws.map fun x:Nat=>D.int .u64 x).drop ((q:Int)).toNat).take ((ws.length:Int)-q).toNat)):V) = .d (.sl (ws.drop q).length ((ws.drop q).map fun x:Nat=>D.int .u64 x)):=by
   rw [hb1,Int.toNat_natCast,←List.map_drop,List.take_of_length_le (by simp)]
  refine G1 (fs hm (fs hq hlt')) ?_;try with_reducible exact tt
  generalize hB:ws.drop q=B at *
  refine CallS.newX (o_m6 B.length (B.map fun x:Nat=>.int .u64 x) (by simp) hbp.1 (by omega)) (o_5l _) rfl (fun _=>rfl) (Subs.of (by rw [htk])) ?_
  rw [show ((B.map fun x:Nat=>D.int .u64 x).map V.d)=U (shrI k B 0) by simp [U,shrI]]
  simp
  refine G1 hr ?_;try with_reducible exact tt
  clear htk hb1 hv hs ha hB hlt hlt'
  refine AW.loopT (α:=Nat) 3 (fun i=>[(6,.d (.int .i64 (i:Int)))]) (fun i=>[(2,⟨199,U (shrI k B i)⟩)]) (fun i=>i≤B.length) (fun i=>B.length-i) 0 ?_ ?_ (Nat.zero_le _) ?_ ?_ ?_
  ·simp
  ·simp
  ·simp
  ·simp
  rintro i hi
  simp
  by_cases h:i=B.length
  ·subst h
   refine G0 ?_;try with_reducible exact tt
   refine AW.cond rfl (fun h=>?_) (fun h=>?_)
   ·simp at h
   refine AW.exit ?_
   (try (simp -implicitDefEqProofs;try simp (disch:=omega) only [w64,wu64]))
   rw [o_mb]
   have hl:(shrL k B).length=B.length:=o_lx k B
   have hvw:natW (a/2^n)=natW (wval (shrL k B)):=by rw [hval.1]
   rw [hvw]
   have hsm:=hval.2
   generalize shrL k B=r at hl hsm ⊢
   have hcell:U r=(r.map fun x:Nat=>D.int .u64 x).map V.d:=by simp [U]
   rw [hcell]
   refine AW.freeze 2 1 ⟨199,_⟩ (r.map fun x:Nat=>.int .u64 x) (by rfl) (by rfl) ?_
   simp [←hl,List.take_of_length_le]
   refine G0 ?_;try with_reducible exact tt
   refine CallS.pu (o_kg r hsm (by omega)) (R0 ?_);try with_reducible exact tt
  ·have hi':i<B.length:=by omega
   have hp:(i:Int)<B.length:=by omega
   have hxB:B.getD i 0<18446744073709551616:=hsB.getD i
   have hset:∀z:Nat,z=(shrL k B).getD i 0→(U (shrI k B i)).set i (.d (.int .u64 z))=U (shrI k B (i+1)):=fun z hz=>by
    rw [←o_ma k B i hi' z hz,U,U,List.map_set]
   have hg:=o_m7 k B i hi'
   have hl:(U (shrI k B i)).length=B.length:=by simp [U,o_m8 k B i hi]
   have hq1:(U (shrI k B i))[i]?=some (.d (.int .u64 (B.getD i 0:Nat))):=by
    rw [U,List.getElem?_map,o_m9 k B i i (Nat.le_refl _) hi'];rfl
   have hq2:i+1<B.length→(U (shrI k B i))[i+1]?=some (.d (.int .u64 (B.getD (i+1) 0:Nat))):=fun h=>by
    rw [U,List.getElem?_map,o_m9 k B i (i+1) (by omega) h];rfl
   have hor:=o_mc (k:=k) (x:=B.getD i 0) (y:=B.getD (i+1) 0) hmk hxB
   rw [←hg] at hor
   have hu:((B.getD i 0:Nat):Int)/2^k=((B.getD i 0/2^k:Nat):Int):=by rw [Int.natCast_ediv,Int.natCast_pow];rfl
   have hule:B.getD i 0/2^k≤B.getD i 0:=Nat.div_le_self _ _
   have hw:IntKind.u64.wrap (((B.getD (i+1) 0:Nat):Int)*2^(64-k))=((B.getD (i+1) 0*2^(64-k)%18446744073709551616:Nat):Int):=by
    rw [IntKind.wrap_u64,Int.natCast_emod,Int.natCast_mul,Int.natCast_pow];rfl
   have hwl:B.getD (i+1) 0*2^(64-k)%18446744073709551616<18446744073709551616:=Nat.mod_lt _ (by decide)
   have hlast:¬i+1<B.length→B.getD i 0/2^k=(shrL k B).getD i 0:=fun h=>by
    rw [hg,o_ko h];simp
   have hls:(shrL k B).length=B.length:=o_lx k B
   generalize B.getD i 0/2^k=u at *
   generalize B.getD i 0=x at *
   generalize B.getD (i+1) 0*2^(64-k)%18446744073709551616=t at *
   generalize B.getD (i+1) 0=y at *
   have hb:=bits_or_u64_nat u t (by omega) hwl
   rw [hor] at hb
   have hz:=hset _ rfl
   generalize (shrL k B).getD i 0=z at *
   generalize U (shrI k B i)=cm at *
   have e1:IntKind.i64.wrap ((i:Int)+1)=(i:Int)+1:=w64 (by omega) (by omega)
   have e2:IntKind.i64.wrap ((64:Int)-k)=(64:Int)-k:=w64 (by omega) (by omega)
   have hn:((64:Int)-k).toNat=64-k:=by omega
   have e3:(((i:Int)+1)).toNat=i+1:=by omega
   have hkl:(k:Int)≤64:=by omega
   have hg1:∀h,cm[i]'h = .d (.int .u64 x):=fun h=>by
    have:=List.getElem?_eq_getElem h
    rw [hq1] at this
    exact (Option.some.inj this).symm
   have hg2:∀h,cm[i+1]'h = .d (.int .u64 y):=fun h=>by
    have:=List.getElem?_eq_getElem h
    rw [hq2 (by omega)] at this
    exact (Option.some.inj this).symm
   refine G1 (fs hi' hp) ?_;try with_reducible exact tt
   refine AW.cond rfl (fun h=>?_) (fun h=>?_)
   ·by_cases hl1:i+1<B.length
    ·have hlp:(i:Int)+1<B.length:=by omega
     refine G1 (fs hi' (fs hp (fs hl (fs hg1 (fs hu (fs e1 hlp)))))) ?_;try with_reducible exact tt
     refine AW.cond rfl (fun h=>?_) (fun h=>?_)
     ·have hne:¬i=i+1:=by omega
      have h64:(64-k:Int)≤64:=by omega
      refine G1 (fs hi' (fs hp (fs hl (fs hg1 (fs hg2 (fs hu (fs e1 (fs hlp (fs hl1 (fs e2 (fs hn (fs e3 (fs hne (fs hw (fs hb hz))))))))))))))) ?_;try with_reducible exact tt
      exact ⟨i+1,by omega,by omega,by simp,by simp⟩
     ·simp at h
    ·have hlp:¬(i:Int)+1<B.length:=by omega
     refine G1 (fs hi' (fs hp (fs hl (fs hg1 (fs hu (fs e1 hlp)))))) ?_;try with_reducible exact tt
     refine AW.cond rfl (fun h=>?_) (fun h=>?_)
     ·simp at h
     ·have:=hlast hl1
      subst this
      refine G1 e1 ?_;try with_reducible exact tt
      refine ⟨i+1,by omega,by omega,by simp,?_⟩
      rw [hset u rfl]
      exact Subs.refl _
   ·simp at h
end
section
open Go.RowKit
theorem and32 (x:Nat) (h:x<18446744073709551616):bits BinOp.and IntKind.u64 (x:Int) 4294967295=((x%4294967296:Nat):Int):=by
 have:=bits_and_u64_nat x 4294967295 h (by omega)
 rw [show ((4294967295:Nat):Int)=4294967295 by rfl] at this
 rw [this,show (4294967295:Nat)=2^32-1 by rfl,Nat.and_two_pow_sub_one_eq_mod]

theorem o_me (x y:Nat) (hx:x<18446744073709551616) (hy:y<18446744073709551616) :
  let x0:=x%4294967296;let x1:=x/4294967296;let y0:=y%4294967296;let y1:=y/4294967296
  let w0:=x0*y0;let t:=x1*y0+w0/4294967296;let w1:=t%4294967296+x0*y1
  w0<18446744073709551616∧x1*y0<18446744073709551616∧t<18446744073709551616∧x0*y1<18446744073709551616∧w1<18446744073709551616∧x1*y1<18446744073709551616 ∧
  x1*y1+t/4294967296<18446744073709551616∧x1*y1+t/4294967296+w1/4294967296<18446744073709551616 ∧
  x*y=(x1*y1+t/4294967296+w1/4294967296)*18446744073709551616+x*y%18446744073709551616:=by
 intro x0 x1 y0 y1 w0 t w1
 have hx0:x0<4294967296:=Nat.mod_lt _ (by decide)
 have hy0:y0<4294967296:=Nat.mod_lt _ (by decide)
 have hx1:x1<4294967296:=by simp only [x1];omega
 have hy1:y1<4294967296:=by simp only [y1];omega
 have ex:x=x1*4294967296+x0:=by simp only [x1,x0];omega
 have ey:y=y1*4294967296+y0:=by simp only [y1,y0];omega
 have b:∀{a c:Nat},a<4294967296→c<4294967296→a*c≤18446744065119617025:=fun {a c} ha hc=>by
  have:=Nat.mul_le_mul (show a≤4294967295 by omega) (show c≤4294967295 by omega)
  omega
 have b00:=b hx0 hy0
 have b10:=b hx1 hy0
 have b01:=b hx0 hy1
 have b11:=b hx1 hy1
 have exy:x*y=x1*y1*18446744073709551616+(x1*y0+x0*y1)*4294967296+x0*y0:=by
  rw [ex,ey]
  simp only [Nat.add_mul,Nat.mul_add]
  have e1:x1*4294967296*(y1*4294967296)=x1*y1*18446744073709551616:=by
   rw [Nat.mul_mul_mul_comm]
  have e2:x1*4294967296*y0=x1*y0*4294967296:=by rw [Nat.mul_right_comm]
  have e3:x0*(y1*4294967296)=x0*y1*4294967296:=by rw [Nat.mul_assoc]
  rw [e1,e2,e3];omega
 have hw0:w0=x0*y0:=rfl
 generalize x*y=xy at exy ⊢
 generalize x0*y0=a00 at *
 have ht:t=x1*y0+w0/4294967296:=rfl
 generalize x1*y0=a10 at *
 have hw1:w1=t%4294967296+x0*y1:=rfl
 generalize x0*y1=a01 at *
 generalize x1*y1=a11 at *
 clear_value w0 t w1
 omega

theorem o_mf (x y:Nat) (hx:x<18446744073709551616) (hy:y<18446744073709551616):Eqn Tryz.prog o_dp [.d (.int .u64 x),.d (.int .u64 y)] [] (.tup [.d (.int .u64 (x*y/18446744073709551616:Nat)),.d (.int .u64 (x*y%18446744073709551616:Nat))]) []:=by
 refine Eqn.pure o_dr (o_kw _ _) ?_
 refine cc (c':=?z18) ?_ ?_
 case refine_1=>cbv<;>exact rfl
 have hp:=o_me x y hx hy
 simp only at hp
 have a1:=and32 x hx
 have a2:=and32 y hy
 have d1:(x:Int)/4294967296=(x/4294967296:Nat):=rfl
 have d2:(y:Int)/4294967296=(y/4294967296:Nat):=rfl
 have l1:x%4294967296<4294967296:=Nat.mod_lt _ (by decide)
 generalize x%4294967296=x0 at hp a1 l1
 generalize x/4294967296=x1 at hp d1
 generalize y%4294967296=y0 at hp a2
 generalize y/4294967296=y1 at hp d2
 obtain ⟨p1,p2,p3,p4,p5,p6,p7,p8,p9⟩:=hp
 have m1:IntKind.u64.wrap ((x0:Int)*y0)=(x0*y0:Nat):=by rw [←Int.natCast_mul];exact wu64 (by omega) (by omega)
 have m2:IntKind.u64.wrap ((x1:Int)*y0)=(x1*y0:Nat):=by rw [←Int.natCast_mul];exact wu64 (by omega) (by omega)
 have m3:IntKind.u64.wrap ((x0:Int)*y1)=(x0*y1:Nat):=by rw [←Int.natCast_mul];exact wu64 (by omega) (by omega)
 have m4:IntKind.u64.wrap ((x1:Int)*y1)=(x1*y1:Nat):=by rw [←Int.natCast_mul];exact wu64 (by omega) (by omega)
 have m5:IntKind.u64.wrap ((x:Int)*y)=(x*y%18446744073709551616:Nat):=by rw [IntKind.wrap_u64,Int.natCast_emod,Int.natCast_mul];rfl
 have lo:x*y%18446744073709551616<18446744073709551616:=Nat.mod_lt _ (by decide)
 generalize x*y%18446744073709551616=low at *
 generalize x*y=xy at *
 generalize x0*y0=a00 at *
 generalize x1*y0=a10 at *
 generalize x0*y1=a01 at *
 generalize x1*y1=a11 at *
 have q1:(a00:Int)/4294967296=(a00/4294967296:Nat):=rfl
 generalize a00/4294967296=b0 at *
 have s1:IntKind.u64.wrap ((a10:Int)+b0)=(a10+b0:Nat):=wu64 (by omega) (by omega)
 have a3:=and32 (a10+b0) p3
 have q2:((a10+b0:Nat):Int)/4294967296=((a10+b0)/4294967296:Nat):=rfl
 generalize (a10+b0)/4294967296=t1 at *
 generalize (a10+b0)%4294967296=t0 at *
 generalize a10+b0=t at *
 have s2:IntKind.u64.wrap ((t0:Int)+a01)=(t0+a01:Nat):=wu64 (by omega) (by omega)
 have q3:((t0+a01:Nat):Int)/4294967296=((t0+a01)/4294967296:Nat):=rfl
 generalize (t0+a01)/4294967296=v1 at *
 generalize t0+a01=v at *
 have s3:IntKind.u64.wrap ((a11:Int)+t1)=(a11+t1:Nat):=wu64 (by omega) (by omega)
 have s4:IntKind.u64.wrap (((a11+t1:Nat):Int)+v1)=(a11+t1+v1:Nat):=wu64 (by omega) (by omega)
 have fin:xy/18446744073709551616=a11+t1+v1:=by omega
 rw [fin]
 generalize a11+t1+v1=hi at *
 generalize a11+t1=r at *
 repeat (first | refine AW.seq ?_ | refine AW.block ?_ | (refine AW.reg mix ?_;simp -implicitDefEqProofs [a1,a2,d1,d2,m1,m2,m3,m4,m5,q1,s1,a3,q2,s2,q3,s3,s4];try simp (disch:=omega) only [w64,wu64]) | (refine need.of (by first | omega | kernel_rfl) ?_) | (refine AW.fin ?_;try simp -implicitDefEqProofs [a1,a2,d1,d2,m1,m2,m3,m4,m5,q1,s1,a3,q2,s2,q3,s3,s4]))
end
section
open Go.RowKit
theorem o_mg (hi lo y:Nat) (h0:hi<y) (hl:lo<18446744073709551616) (hy:y<18446744073709551616) :
  ∃s Y u v:Nat,s=64-bitsN y∧s≤63∧y*2^s=Y∧Y<18446744073709551616∧9223372036854775808≤Y∧hi*2^s<18446744073709551616∧hi*2^s ||| lo/2^(64-s)=u∧lo*2^s%18446744073709551616=v∧u<Y∧v<18446744073709551616 ∧
   (hi*18446744073709551616+lo)*2^s=u*18446744073709551616+v:=by
 obtain ⟨b1,b2⟩:=o_lm (n:=y) (by omega)
 have b3:=o_lj y
 have b4:bitsN y≤64:=o_lk (by omega)
 have hs:64-bitsN y≤63:=by omega
 have hY1:y*2^(64-bitsN y)<18446744073709551616:=by
  have:2^bitsN y*2^(64-bitsN y)=18446744073709551616:=by rw [←Nat.pow_add,show bitsN y+(64-bitsN y)=64 by omega]
  rw [←this]
  exact Nat.mul_lt_mul_of_pos_right b3 (Nat.two_pow_pos _)
 have hY2:9223372036854775808≤y*2^(64-bitsN y):=by
  have:2^(bitsN y-1)*2^(64-bitsN y)=9223372036854775808:=by rw [←Nat.pow_add,show bitsN y-1+(64-bitsN y)=63 by omega]
  rw [←this]
  exact Nat.mul_le_mul_right _ b1
 generalize 64-bitsN y=s at *
 have hB:(18446744073709551616:Nat)=2^s*2^(64-s):=by rw [←Nat.pow_add,show s+(64-s)=64 by omega]
 have hp:=Nat.two_pow_pos s
 have hp':=Nat.two_pow_pos (64-s)
 have hh:hi*2^s<y*2^s:=Nat.mul_lt_mul_of_pos_right h0 hp
 have hlq:lo/2^(64-s)<2^s:=by rw [Nat.div_lt_iff_lt_mul hp',←hB];exact hl
 have hor:hi*2^s ||| lo/2^(64-s)=hi*2^s+lo/2^(64-s):=by
  rw [Nat.mul_comm,←Nat.two_pow_add_eq_or_of_lt hlq]
 have hlo:lo*2^s=lo/2^(64-s)*18446744073709551616+lo*2^s%18446744073709551616:=by
  have h1:lo*2^s/18446744073709551616=lo/2^(64-s):=by
   conv=>lhs;rw [hB]
   rw [Nat.mul_comm lo,Nat.mul_div_mul_left _ _ hp]
  have h2:=Nat.div_add_mod (lo*2^s) 18446744073709551616
  rw [h1] at h2
  omega
 have hlm:lo*2^s%18446744073709551616<18446744073709551616:=Nat.mod_lt _ (by decide)
 have hN:(hi*18446744073709551616+lo)*2^s=(hi*2^s)*18446744073709551616+lo*2^s:=by
  rw [Nat.add_mul,Nat.mul_right_comm]
 refine ⟨s,y*2^s,hi*2^s+lo/2^(64-s),lo*2^s%18446744073709551616,rfl,hs,rfl,hY1,hY2,by omega,hor,rfl,?_,hlm,?_⟩
 ·have h1:(hi+1)*2^s≤y*2^s:=Nat.mul_le_mul_right _ h0
  rw [Nat.add_mul,Nat.one_mul] at h1
  omega
 ·rw [hN,hlo,Nat.add_mul]
  generalize lo*2^s%18446744073709551616=a at *
  generalize lo/2^(64-s)=b at *
  generalize hi*2^s=c at *
  omega

def hInv (Y1 Y0 u v:Nat) (q r:Nat):Prop:=q*Y1+r=u∧u*4294967296+v<(q+1)*(Y1*4294967296+Y0)∧r<4294967296

theorem o_mh {Y1 Y0 u v:Nat} (h1:0<Y1) (h2:Y1<4294967296) (hv:v<4294967296):hInv Y1 Y0 u v (u/Y1) (u%Y1):=by
 refine ⟨?_,o_ls h1 hv,?_⟩
 ·rw [Nat.mul_comm];exact Nat.div_add_mod u Y1
 ·have:=Nat.mod_lt u h1;omega

set_option maxHeartbeats 8000000 in
theorem o_mi (hi lo y:Nat) (h0:hi<y) (hl:lo<18446744073709551616) (hy:y<18446744073709551616):Eqn Tryz.prog o_fd [.d (.int .u64 hi),.d (.int .u64 lo),.d (.int .u64 y)] [] (.tup [.d (.int .u64 ((hi*18446744073709551616+lo)/y:Nat)),.d (.int .u64 ((hi*18446744073709551616+lo)%y:Nat))]) []:=by
 rcases Nat.eq_zero_or_pos hi with rfl | hpos
 ·rw [Nat.zero_mul,Nat.zero_add]
  exact o_lf lo y hl (by omega)
 refine Eqn.pure o_ff (o_kw _ _) ?_
 refine cc (c':=?z19) ?_ ?_
 case refine_1=>cbv<;>exact rfl
 obtain ⟨s,Y,u,v,hs,hs63,hY,hYl,hYg,hhs,hor,hv,hu,hvl,hN⟩:=o_mg hi lo y h0 hl hy
 have hq:(hi*18446744073709551616+lo)/y=(u*18446744073709551616+v)/Y:=by rw [←hN,←hY];exact o_lt.1.symm
 have hr:(hi*18446744073709551616+lo)%y=(u*18446744073709551616+v)%Y/2^s:=by rw [←hN,←hY];exact o_lt.2.symm
 rw [hq,hr]
 clear hq hr hN
 obtain ⟨Qf,hQf⟩:∃Qf,Qf=(u*18446744073709551616+v)/Y:=⟨_,rfl⟩
 obtain ⟨Rf,hRf⟩:∃Rf,Rf=(u*18446744073709551616+v)%Y/2^s:=⟨_,rfl⟩
 rw [←hQf,←hRf]
 have h1:¬y=0:=by omega
 have h2:¬(y:Int)≤hi:=by omega
 have h3:¬hi=0:=by omega
 have h1':¬(y:Int)=0:=by omega
 have h3':¬(hi:Int)=0:=by omega
 refine G1 (fs h1 h1') ?_;try with_reducible exact tt
 refine AW.cond rfl (fun h=>?_) (fun h=>?_)
 ·simp [h1] at h
 refine G1 h2 ?_;try with_reducible exact tt
 refine AW.cond rfl (fun h=>?_) (fun h=>?_)
 ·simp [h2] at h
 refine G1 (fs h3 h3') ?_;try with_reducible exact tt
 refine AW.cond rfl (fun h=>?_) (fun h=>?_)
 ·simp [h3] at h
 refine G0 ?_;try with_reducible exact tt
 have hlead:=o_m3 y hy
 rw [←hs] at hlead
 have hq1':=Nat.div_add_mod Y 4294967296
 have hY0':Y%4294967296<4294967296:=Nat.mod_lt _ (by decide)
 have hv':=Nat.div_add_mod v 4294967296
 have hv0':v%4294967296<4294967296:=Nat.mod_lt _ (by decide)
 have f1:IntKind.u64.wrap (s:Int)=s:=wu64 (by omega) (by omega)
 have f2:IntKind.u64.wrap ((y:Int)*2^s)=Y:=by
  rw [show (y:Int)*2^s=((y*2^s:Nat):Int) by rw [Int.natCast_mul,Int.natCast_pow];rfl,hY];exact wu64 (by omega) (by omega)
 have f3:(Y:Int)/4294967296=(Y/4294967296:Nat):=rfl
 have f4:=and32 Y hYl
 have f5:IntKind.u64.wrap ((hi:Int)*2^s)=(hi*2^s:Nat):=by
  rw [show (hi:Int)*2^s=((hi*2^s:Nat):Int) by rw [Int.natCast_mul,Int.natCast_pow];rfl];exact wu64 (by omega) (by omega)
 have f6:IntKind.u64.wrap ((64:Int)-s)=(64:Int)-s:=wu64 (by omega) (by omega)
 have f7:((64:Int)-s).toNat=64-s:=by omega
 have f8:(lo:Int)/2^(64-s)=(lo/2^(64-s):Nat):=by rw [Int.natCast_ediv,Int.natCast_pow];rfl
 have hll:lo/2^(64-s)≤lo:=Nat.div_le_self _ _
 have f9:=bits_or_u64_nat (hi*2^s) (lo/2^(64-s)) hhs (by omega)
 rw [hor] at f9
 have f10:IntKind.u64.wrap ((lo:Int)*2^s)=v:=by
  rw [IntKind.wrap_u64,show (lo:Int)*2^s=((lo*2^s:Nat):Int) by rw [Int.natCast_mul,Int.natCast_pow];rfl,←hv];rfl
 have f11:(v:Int)/4294967296=(v/4294967296:Nat):=rfl
 have f12:=and32 v hvl
 have f13:(s:Int)≤64:=by omega
 have f14:(0:Int)≤64-s:=by omega
 have f15:(64:Int)-s≤64:=by omega
 generalize Y/4294967296=Y1 at *
 generalize Y%4294967296=Y0 at *
 generalize v/4294967296=v1 at *
 generalize v%4294967296=v0 at *
 generalize hi*2^s=h' at *
 generalize lo/2^(64-s)=l' at *
 have hYY:Y=Y1*4294967296+Y0:=by omega
 have hvv:v=v1*4294967296+v0:=by omega
 have hY1:2147483648≤Y1:=by omega
 have hY1l:Y1<4294967296:=by omega
 have hY0:Y0<4294967296:=by omega
 have hv1:v1<4294967296:=by omega
 have hv0:v0<4294967296:=by omega
 have hYn:¬(Y1:Int)=0:=by omega
 have hYn':¬Y1=0:=by omega
 have huq:=Nat.div_add_mod u Y1
 have hqle:u/Y1≤u:=Nat.div_le_self _ _
 have g1:IntKind.u64.wrap ((u:Int)/Y1)=(u/Y1:Nat):=by rw [←Int.natCast_ediv];generalize u/Y1=q at *;exact wu64 (by omega) (by omega)
 have g2:IntKind.u64.wrap (((u/Y1:Nat):Int)*Y1)=(u/Y1*Y1:Nat):=by
  rw [Nat.mul_comm] at huq
  rw [←Int.natCast_mul];generalize u/Y1*Y1=q at *;exact wu64 (by omega) (by omega)
 have g3:IntKind.u64.wrap ((u:Int)-(u/Y1*Y1:Nat))=(u%Y1:Nat):=by
  rw [Nat.mul_comm] at huq
  generalize u/Y1*Y1=q at *
  generalize u%Y1=r at *
  rw [wu64 (by omega) (by omega)];omega
 obtain ⟨q1,hq1⟩:∃q1,q1=(u*4294967296+v1)/Y:=⟨_,rfl⟩
 have gA:IntKind.u64.wrap ((u:Int)-IntKind.u64.wrap ((u:Int)/Y1*Y1))=(u:Int)%Y1:=by
  have h1:((u:Int)/Y1*Y1)=((u/Y1:Nat):Int)*Y1:=by rw [Int.natCast_ediv]
  rw [h1,g2,g3,Int.natCast_emod]
 refine G0 ?_;try with_reducible exact tt
 refine CallS.pu (hlead) (R1 (fs f1 (fs f2 (fs f3 (fs f4 (fs f5 (fs f6 (fs f7 (fs f8 (fs f9 (fs f10 (fs f11 (fs f12 (fs f13 (fs f14 (fs f15 (fs hYn (fs hYn' g1))))))))))))))))) ?_);try with_reducible exact tt
 refine AW.blockCut 0 [(15,.d (.int .u64 q1))] [] (by simp) (by simp) ?_ ?_
 ·-- the half digit 15
  refine AW.loopT (α:=Nat×Nat) 0 (fun a=>[(15,.d (.int .u64 (a.1:Int))),(16,.d (.int .u64 (a.2:Int)))]) (fun _=>[]) (fun a=>hInv Y1 Y0 u v1 a.1 a.2) (fun a=>a.1) (u/Y1,u%Y1) (by simp) (by simp) (o_mh (by omega) (by omega) (by omega)) (by simp [gA]) (by simp) ?_
  rintro ⟨q,r⟩ ⟨i1,i2,i3⟩
  simp only at i1 i2 i3
  have hqY:q*2147483648≤q*Y1:=Nat.mul_le_mul_left _ hY1
  have hend:q*Y0≤r*4294967296+v1→q1=q:=fun h=>by rw [hq1,hYY];exact o_lp i1 h i2
  have hnext:(4294967296≤q∨r*4294967296+v1<q*Y0)→0<q∧(q-1)*Y1+(r+Y1)=u∧u*4294967296+v1<(q-1+1)*(Y1*4294967296+Y0):=fun h=>o_lq i1 (by omega) (by omega) h
  have hstep:∀(T:List V) ,(4294967296≤q∨r*4294967296+v1<q*Y0)→0<q∧hInv Y1 Y0 u v1 (q-1) (r+Y1)∨(0<q∧4294967296≤r+Y1∧q1=q-1):=fun _ h=>by
   obtain ⟨n1,n2,n3⟩:=hnext h
   rcases Nat.lt_or_ge (r+Y1) 4294967296 with h1 | h1
   ·exact .inl ⟨n1,n2,n3,h1⟩
   ·refine .inr ⟨n1,h1,?_⟩
    rw [hq1,hYY]
    exact o_lp n2 (o_lr n2 (by omega) hY0 h1 _) n3
  have b1:IntKind.u64.wrap ((r:Int)+Y1)=((r+Y1:Nat):Int):=wu64 (by omega) (by omega)
  have body:(4294967296≤q∨r*4294967296+v1<q*Y0)→IntKind.u64.wrap ((q:Int)-1)=((q-1:Nat):Int):=fun h=>by
   have:=(hnext h).1
   rw [wu64 (by omega) (by omega)];omega
  by_cases c1:4294967296≤q
  ·have c1':(4294967296:Int)≤q:=by omega
   refine G1 c1' ?_;try with_reducible exact tt
   refine AW.cond rfl (fun h=>?_) (fun h=>?_)
   ·have e1:=body (.inl c1)
    rcases hstep [] (.inl c1) with ⟨n1,n2⟩ | ⟨n1,n2,n3⟩
    ·have n4:¬(4294967296:Int)≤((r+Y1:Nat):Int):=by have:=n2.2.2;omega
     generalize hr':r+Y1=r' at *
     generalize hq':q-1=q' at *
     refine G1 (fs e1 (fs b1 n4)) ?_;try with_reducible exact tt
     refine AW.cond rfl (fun h=>?_) (fun h=>?_)
     ·first | (simp [n4] at h;done) | (simp [n4] at h;omega)
     refine G0 ?_;try with_reducible exact tt
     exact ⟨q',r',n2,by omega,by simp,by simp⟩
    ·have n4:(4294967296:Int)≤((r+Y1:Nat):Int):=by omega
     generalize hr':r+Y1=r' at *
     generalize hq':q-1=q' at *
     refine G1 (fs e1 (fs b1 n4)) ?_;try with_reducible exact tt
     refine AW.cond rfl (fun h=>?_) (fun h=>?_)
     ·refine AW.exit ?_
      (try (simp -implicitDefEqProofs;try simp (disch:=omega) only [w64,wu64]))
      rw [n3]
      exact Sub1.refl _
     ·first | (simp at h;done) | (simp at h;omega)
   ·simp [c1'] at h
  ·have c1':¬(4294967296:Int)≤q:=by omega
   have hqy:q*Y0≤4294967295*4294967295:=Nat.mul_le_mul (by omega) (by omega)
   have e1:IntKind.u64.wrap ((q:Int)*Y0)=((q*Y0:Nat):Int):=by rw [←Int.natCast_mul];exact wu64 (by omega) (by omega)
   have e2:IntKind.u64.wrap (4294967296*(r:Int))=((4294967296*r:Nat):Int):=wu64 (by omega) (by omega)
   have e3:IntKind.u64.wrap (((4294967296*r:Nat):Int)+v1)=((4294967296*r+v1:Nat):Int):=wu64 (by omega) (by omega)
   by_cases c2:r*4294967296+v1<q*Y0
   ·have c2':((4294967296*r+v1:Nat):Int)<((q*Y0:Nat):Int):=by omega
    have e4:=body (.inr c2)
    have hs:=hstep [] (.inr c2)
    clear hend hnext hstep body
    generalize q*Y0=m at *
    generalize 4294967296*r=m2 at *
    generalize m2+v1=m3 at *
    refine G1 (fs c1' (fs e1 (fs e2 (fs e3 c2')))) ?_;try with_reducible exact tt
    refine AW.cond rfl (fun h=>?_) (fun h=>?_)
    ·rcases hs with ⟨n1,n2⟩ | ⟨n1,n2,n3⟩
     ·have n4:¬(4294967296:Int)≤((r+Y1:Nat):Int):=by have:=n2.2.2;omega
      generalize hr':r+Y1=r' at *
      generalize hq':q-1=q' at *
      refine G1 (fs e4 (fs b1 n4)) ?_;try with_reducible exact tt
      refine AW.cond rfl (fun h=>?_) (fun h=>?_)
      ·first | (simp at h;done) | (simp at h;omega)
      refine G0 ?_;try with_reducible exact tt
      exact ⟨q',r',n2,by omega,by simp,by simp⟩
     ·have n4:(4294967296:Int)≤((r+Y1:Nat):Int):=by omega
      generalize hr':r+Y1=r' at *
      generalize hq':q-1=q' at *
      refine G1 (fs e4 (fs b1 n4)) ?_;try with_reducible exact tt
      refine AW.cond rfl (fun h=>?_) (fun h=>?_)
      ·refine AW.exit ?_
       (try (simp -implicitDefEqProofs;try simp (disch:=omega) only [w64,wu64]))
       rw [n3]
       exact Sub1.refl _
      ·first | (simp at h;done) | (simp at h;omega)
    ·first | (simp at h;done) | (simp at h;omega)
   ·have c2':¬((4294967296*r+v1:Nat):Int)<((q*Y0:Nat):Int):=by omega
    have e4:=hend (by omega)
    clear hend hnext hstep body
    generalize q*Y0=m at *
    generalize 4294967296*r=m2 at *
    generalize m2+v1=m3 at *
    refine G1 (fs c1' (fs e1 (fs e2 (fs e3 c2')))) ?_;try with_reducible exact tt
    refine AW.cond rfl (fun h=>?_) (fun h=>?_)
    ·first | (simp at h;done) | (simp at h;omega)
    ·refine AW.exit ?_
     (try (simp -implicitDefEqProofs;try simp (disch:=omega) only [w64,wu64]))
     rw [e4]
     exact Sub1.refl _
 obtain ⟨r1,hr1⟩:∃r1,r1=u*4294967296+v1-q1*Y:=⟨_,rfl⟩
 have hd:=Nat.div_add_mod (u*4294967296+v1) Y
 have hm:=Nat.mod_lt (u*4294967296+v1) (show Y>0 by omega)
 rw [←hq1,Nat.mul_comm] at hd
 have hr1l:r1<Y:=by omega
 have hq1l:q1<4294967296:=by
  rw [hq1,Nat.div_lt_iff_lt_mul (by omega)]
  omega
 have p1:IntKind.u64.wrap ((u:Int)*4294967296)=(u*4294967296%18446744073709551616:Nat):=by rw [IntKind.wrap_u64];rfl
 have p2:IntKind.u64.wrap (((u*4294967296%18446744073709551616:Nat):Int)+v1)=((u*4294967296+v1)%18446744073709551616:Nat):=by rw [IntKind.wrap_u64];omega
 have p3:IntKind.u64.wrap ((q1:Int)*Y)=(q1*Y%18446744073709551616:Nat):=by rw [IntKind.wrap_u64,←Int.natCast_mul];rfl
 have p4:IntKind.u64.wrap (((((u*4294967296+v1)%18446744073709551616:Nat)):Int)-(q1*Y%18446744073709551616:Nat))=(r1:Int):=by
  rw [IntKind.wrap_u64]
  generalize q1*Y=m at *
  omega
 have hrq:=Nat.div_add_mod r1 Y1
 have hrle:r1/Y1≤r1:=Nat.div_le_self _ _
 have g1':IntKind.u64.wrap ((r1:Int)/Y1)=(r1/Y1:Nat):=by rw [←Int.natCast_ediv];generalize r1/Y1=q at *;exact wu64 (by omega) (by omega)
 have g2':IntKind.u64.wrap (((r1/Y1:Nat):Int)*Y1)=(r1/Y1*Y1:Nat):=by
  rw [Nat.mul_comm] at hrq
  rw [←Int.natCast_mul];generalize r1/Y1*Y1=q at *;exact wu64 (by omega) (by omega)
 have g3':IntKind.u64.wrap ((r1:Int)-(r1/Y1*Y1:Nat))=(r1%Y1:Nat):=by
  rw [Nat.mul_comm] at hrq
  generalize r1/Y1*Y1=q at *
  generalize r1%Y1=r at *
  rw [wu64 (by omega) (by omega)];omega
 have gA':IntKind.u64.wrap ((r1:Int)-IntKind.u64.wrap ((r1:Int)/Y1*Y1))=(r1:Int)%Y1:=by
  have h1:((r1:Int)/Y1*Y1)=((r1/Y1:Nat):Int)*Y1:=by rw [Int.natCast_ediv]
  rw [h1,g2',g3',Int.natCast_emod]
 have hp:=halves' (y:=Y) (a:=u*4294967296+v1) (b:=4294967296) (v0:=v0) (q1:=q1) (q0:=(r1*4294967296+v0)/Y) (by omega) hq1.symm (by rw [←hr1])
 rw [←hr1] at hp
 obtain ⟨q0,hq0⟩:∃q0,q0=(r1*4294967296+v0)/Y:=⟨_,rfl⟩
 rw [←hq0] at hp
 rw [show u*18446744073709551616+v=(u*4294967296+v1)*4294967296+v0 by omega] at hQf hRf
 rw [hp.1] at hQf
 rw [hp.2] at hRf
 have hd0:=Nat.div_add_mod (r1*4294967296+v0) Y
 have hm0:=Nat.mod_lt (r1*4294967296+v0) (show Y>0 by omega)
 rw [←hq0,Nat.mul_comm] at hd0
 obtain ⟨r0,hr0⟩:∃r0,r0=r1*4294967296+v0-q0*Y:=⟨_,rfl⟩
 rw [←hr0] at hRf
 have hq0l:q0<4294967296:=by
  rw [hq0,Nat.div_lt_iff_lt_mul (by omega)]
  omega
 have s1:IntKind.u64.wrap ((r1:Int)*4294967296)=(r1*4294967296%18446744073709551616:Nat):=by rw [IntKind.wrap_u64];rfl
 have s2:IntKind.u64.wrap (((r1*4294967296%18446744073709551616:Nat):Int)+v0)=((r1*4294967296+v0)%18446744073709551616:Nat):=by rw [IntKind.wrap_u64];omega
 have s3:IntKind.u64.wrap ((q0:Int)*Y)=(q0*Y%18446744073709551616:Nat):=by rw [IntKind.wrap_u64,←Int.natCast_mul];rfl
 have s4:IntKind.u64.wrap (((((r1*4294967296+v0)%18446744073709551616:Nat)):Int)-(q0*Y%18446744073709551616:Nat))=(r0:Int):=by
  rw [IntKind.wrap_u64]
  generalize q0*Y=m at *
  omega
 have s5:IntKind.u64.wrap ((q1:Int)*4294967296)=(q1*4294967296:Nat):=wu64 (by omega) (by omega)
 have s6:IntKind.u64.wrap (((q1*4294967296:Nat):Int)+q0)=(q1*4294967296+q0:Nat):=wu64 (by omega) (by omega)
 have s7:(r0:Int)/2^s=(r0/2^s:Nat):=by rw [Int.natCast_ediv,Int.natCast_pow];rfl
 rw [←hRf] at s7
 rw [←hQf] at s6
 clear hp hd hm hr1 hq1 hr0 hd0 hm0 hRf hQf
 obtain ⟨t3,ht3⟩:∃t,t=q1*Y%18446744073709551616:=⟨_,rfl⟩
 rw [←ht3] at p3 p4
 obtain ⟨t2,ht2⟩:∃t,t=(u*4294967296+v1)%18446744073709551616:=⟨_,rfl⟩
 rw [←ht2] at p2 p4
 obtain ⟨t1,ht1⟩:∃t,t=u*4294967296%18446744073709551616:=⟨_,rfl⟩
 rw [←ht1] at p1 p2
 clear ht1 ht2 ht3
 simp
 repeat (first | refine AW.seq ?_ | refine AW.block ?_ | (refine AW.reg mix ?_;simp -implicitDefEqProofs [p1,p2,p3,p4,hYn,hYn',g1'];try simp (disch:=omega) only [w64,wu64]) | (refine need.of (by first | omega | kernel_rfl) ?_) | (refine AW.fin ?_;try simp -implicitDefEqProofs [p1,p2,p3,p4,hYn,hYn',g1']))
 refine AW.blockCut 0 [(18,.d (.int .u64 q0))] [] (by simp) (by simp) ?_ ?_
 ·-- the other half digit
  refine AW.loopT (α:=Nat×Nat) 0 (fun a=>[(18,.d (.int .u64 (a.1:Int))),(16,.d (.int .u64 (a.2:Int)))]) (fun _=>[]) (fun a=>hInv Y1 Y0 r1 v0 a.1 a.2) (fun a=>a.1) (r1/Y1,r1%Y1) (by simp) (by simp) (o_mh (by omega) (by omega) (by omega)) (by simp [gA']) (by simp) ?_
  rintro ⟨q,r⟩ ⟨i1,i2,i3⟩
  simp only at i1 i2 i3
  have hqY:q*2147483648≤q*Y1:=Nat.mul_le_mul_left _ hY1
  have hend:q*Y0≤r*4294967296+v0→q0=q:=fun h=>by rw [hq0,hYY];exact o_lp i1 h i2
  have hnext:(4294967296≤q∨r*4294967296+v0<q*Y0)→0<q∧(q-1)*Y1+(r+Y1)=r1∧r1*4294967296+v0<(q-1+1)*(Y1*4294967296+Y0):=fun h=>o_lq i1 (by omega) (by omega) h
  have hstep:∀(T:List V) ,(4294967296≤q∨r*4294967296+v0<q*Y0)→0<q∧hInv Y1 Y0 r1 v0 (q-1) (r+Y1)∨(0<q∧4294967296≤r+Y1∧q0=q-1):=fun _ h=>by
   obtain ⟨n1,n2,n3⟩:=hnext h
   rcases Nat.lt_or_ge (r+Y1) 4294967296 with h1 | h1
   ·exact .inl ⟨n1,n2,n3,h1⟩
   ·refine .inr ⟨n1,h1,?_⟩
    rw [hq0,hYY]
    exact o_lp n2 (o_lr n2 (by omega) hY0 h1 _) n3
  have b1:IntKind.u64.wrap ((r:Int)+Y1)=((r+Y1:Nat):Int):=wu64 (by omega) (by omega)
  have body:(4294967296≤q∨r*4294967296+v0<q*Y0)→IntKind.u64.wrap ((q:Int)-1)=((q-1:Nat):Int):=fun h=>by
   have:=(hnext h).1
   rw [wu64 (by omega) (by omega)];omega
  by_cases c1:4294967296≤q
  ·have c1':(4294967296:Int)≤q:=by omega
   refine G1 c1' ?_;try with_reducible exact tt
   refine AW.cond rfl (fun h=>?_) (fun h=>?_)
   ·have e1:=body (.inl c1)
    rcases hstep [] (.inl c1) with ⟨n1,n2⟩ | ⟨n1,n2,n3⟩
    ·have n4:¬(4294967296:Int)≤((r+Y1:Nat):Int):=by have:=n2.2.2;omega
     generalize hr':r+Y1=r' at *
     generalize hq':q-1=q' at *
     refine G1 (fs e1 (fs b1 n4)) ?_;try with_reducible exact tt
     refine AW.cond rfl (fun h=>?_) (fun h=>?_)
     ·first | (simp [n4] at h;done) | (simp [n4] at h;omega)
     refine G0 ?_;try with_reducible exact tt
     exact ⟨q',r',n2,by omega,by simp,by simp⟩
    ·have n4:(4294967296:Int)≤((r+Y1:Nat):Int):=by omega
     generalize hr':r+Y1=r' at *
     generalize hq':q-1=q' at *
     refine G1 (fs e1 (fs b1 n4)) ?_;try with_reducible exact tt
     refine AW.cond rfl (fun h=>?_) (fun h=>?_)
     ·refine AW.exit ?_
      (try (simp -implicitDefEqProofs;try simp (disch:=omega) only [w64,wu64]))
      rw [n3]
      exact Sub1.refl _
     ·first | (simp at h;done) | (simp at h;omega)
   ·simp [c1'] at h
  ·have c1':¬(4294967296:Int)≤q:=by omega
   have hqy:q*Y0≤4294967295*4294967295:=Nat.mul_le_mul (by omega) (by omega)
   have e1:IntKind.u64.wrap ((q:Int)*Y0)=((q*Y0:Nat):Int):=by rw [←Int.natCast_mul];exact wu64 (by omega) (by omega)
   have e2:IntKind.u64.wrap (4294967296*(r:Int))=((4294967296*r:Nat):Int):=wu64 (by omega) (by omega)
   have e3:IntKind.u64.wrap (((4294967296*r:Nat):Int)+v0)=((4294967296*r+v0:Nat):Int):=wu64 (by omega) (by omega)
   by_cases c2:r*4294967296+v0<q*Y0
   ·have c2':((4294967296*r+v0:Nat):Int)<((q*Y0:Nat):Int):=by omega
    have e4:=body (.inr c2)
    have hs:=hstep [] (.inr c2)
    clear hend hnext hstep body
    generalize q*Y0=m at *
    generalize 4294967296*r=m2 at *
    generalize m2+v0=m3 at *
    refine G1 (fs c1' (fs e1 (fs e2 (fs e3 c2')))) ?_;try with_reducible exact tt
    refine AW.cond rfl (fun h=>?_) (fun h=>?_)
    ·rcases hs with ⟨n1,n2⟩ | ⟨n1,n2,n3⟩
     ·have n4:¬(4294967296:Int)≤((r+Y1:Nat):Int):=by have:=n2.2.2;omega
      generalize hr':r+Y1=r' at *
      generalize hq':q-1=q' at *
      refine G1 (fs e4 (fs b1 n4)) ?_;try with_reducible exact tt
      refine AW.cond rfl (fun h=>?_) (fun h=>?_)
      ·first | (simp at h;done) | (simp at h;omega)
      refine G0 ?_;try with_reducible exact tt
      exact ⟨q',r',n2,by omega,by simp,by simp⟩
     ·have n4:(4294967296:Int)≤((r+Y1:Nat):Int):=by omega
      generalize hr':r+Y1=r' at *
      generalize hq':q-1=q' at *
      refine G1 (fs e4 (fs b1 n4)) ?_;try with_reducible exact tt
      refine AW.cond rfl (fun h=>?_) (fun h=>?_)
      ·refine AW.exit ?_
       (try (simp -implicitDefEqProofs;try simp (disch:=omega) only [w64,wu64]))
       rw [n3]
       exact Sub1.refl _
      ·first | (simp at h;done) | (simp at h;omega)
    ·first | (simp at h;done) | (simp at h;omega)
   ·have c2':¬((4294967296*r+v0:Nat):Int)<((q*Y0:Nat):Int):=by omega
    have e4:=hend (by omega)
    clear hend hnext hstep body
    generalize q*Y0=m at *
    generalize 4294967296*r=m2 at *
    generalize m2+v0=m3 at *
    refine G1 (fs c1' (fs e1 (fs e2 (fs e3 c2')))) ?_;try with_reducible exact tt
    refine AW.cond rfl (fun h=>?_) (fun h=>?_)
    ·first | (simp at h;done) | (simp at h;omega)
    ·refine AW.exit ?_
     (try (simp -implicitDefEqProofs;try simp (disch:=omega) only [w64,wu64]))
     rw [e4]
     exact Sub1.refl _
 clear hq0
 obtain ⟨t6,ht6⟩:∃t,t=q0*Y%18446744073709551616:=⟨_,rfl⟩
 rw [←ht6] at s3 s4
 obtain ⟨t5,ht5⟩:∃t,t=(r1*4294967296+v0)%18446744073709551616:=⟨_,rfl⟩
 rw [←ht5] at s2 s4
 obtain ⟨t4,ht4⟩:∃t,t=r1*4294967296%18446744073709551616:=⟨_,rfl⟩
 rw [←ht4] at s1 s2
 obtain ⟨t7,ht7⟩:∃t,t=q1*4294967296:=⟨_,rfl⟩
 rw [←ht7] at s5 s6
 clear ht4 ht5 ht6 ht7
 simp
 refine G1 (fs s1 (fs s2 (fs s3 (fs s4 (fs s5 (fs s6 (fs s7 f13))))))) ?_;try with_reducible exact tt
end
section
open Go.RowKit
theorem o_mj:∀(ws:List Nat) (j v:Nat),j<ws.length→wval (ws.set j v)+18446744073709551616^j*ws.getD j 0=wval ws+18446744073709551616^j*v
 | [],j,v,h=>by simp at h
 | x::l,0,v,h=>by simp [wval];omega
 | x::l,j+1,v,h=>by
  have ih:=o_mj l j v (by simpa using h)
  simp only [List.set_cons_succ,wval,Nat.pow_succ,List.getD_cons_succ]
  have e:∀z,18446744073709551616^j*18446744073709551616*z=18446744073709551616*(18446744073709551616^j*z):=fun z=>by
   rw [Nat.mul_right_comm,Nat.mul_comm]
  rw [e,e]
  omega
theorem o_mk {ws:List Nat} (h:small ws) (j v:Nat) (hv:v<18446744073709551616):small (ws.set j v):=by
 intro x hx
 rcases List.mem_or_eq_of_mem_set hx with hx | rfl
 ·exact h x hx
 ·exact hv
def uW (ws:List Nat):List V:=U ws
theorem o_ml (ws:List Nat):(uW ws).length=ws.length:=by simp [uW,U]
theorem o_mm {ws:List Nat} {j:Nat} (h:j<ws.length):(uW ws)[j]?=some (.d (.int .u64 (ws.getD j 0:Nat))):=by
 simp [uW,U,List.getD,h]
theorem o_mn (ws:List Nat) (j v:Nat):(uW ws).set j (.d (.int .u64 v))=uW (ws.set j v):=by simp [uW,U,List.map_set]
theorem o_mo (n:Nat) (ws:List Nat):V.lowl n (uW ws)=true:=o_l8 n ws

theorem o_mp {vn v z1 z2 p b xy o c l2 h2:Nat} (hs2:vn+p*o=v+p*l2) (hv:v+p*c=z2+z1) (htot:xy+o+c=l2+b*h2):vn+p*b*h2=z2+(z1+p*xy):=by
 have e2:=congrArg (p * ·) htot
 simp only [Nat.mul_add] at e2
 rw [←Nat.mul_assoc] at e2
 omega
set_option maxHeartbeats 4000000 in
theorem o_mq (m n:Nat) (hm:size m≤1000000) (hn:size n≤1000000):Eqn Tryz.prog o_a9 [.d (.agg [natW m]),.d (.agg [natW n])] [] (.d (.agg [natW (m*n)])) []:=by
 refine Eqn.pure o_ab (o_5d _) ?_
 unfold size at hm hn
 rw [←o_k7 m,←o_k7 n]
 have hsA:=o_k8 m
 have hsB:=o_k8 n
 rw [show natW (wval (words m))=W (words m) by rw [o_k7];rfl,show natW (wval (words n))=W (words n) by rw [o_k7];rfl]
 generalize words m=A at *
 generalize words n=B at *
 refine cc (c':=?z20) ?_ ?_
 case refine_1=>cbv<;>exact rfl
 try simp only [W]
 have hlen:((A.length:Int)+B.length).toNat=A.length+B.length:=by omega
 refine G1 hlen ?_;try with_reducible exact tt
 rw [show List.replicate (A.length+B.length) (V.d (.int .u64 0))=uW (List.replicate (A.length+B.length) 0) by simp [uW,U]]
 refine AW.loopT (α:=Nat×List Nat) 4 (fun s=>[(25,.d (.int .i64 (s.1:Int)))]) (fun s=>[(3,⟨199,uW s.2⟩)]) (fun s=>s.1≤A.length∧s.2.length=A.length+B.length∧small s.2∧wval s.2=wval (A.take s.1)*wval B∧∀j,s.1+B.length≤j→s.2.getD j 0=0) (fun s=>A.length-s.1) (0,List.replicate (A.length+B.length) 0) ?_ ?_ ?_ ?_ ?_ ?_
 ·simp
 ·simp
 ·refine ⟨Nat.zero_le _,by simp,fun x hx=>by rw [List.eq_of_mem_replicate hx];omega,by simp [o_jb,wval],fun j _=>?_⟩
  simp [List.getD,List.getElem?_replicate]
  split<;>rfl
 ·simp
 ·simp [o_mo]
 rintro ⟨i,ws⟩ ⟨hi,hl,hs,hv,hz⟩
 simp only at hi hl hs hv hz
 simp
 by_cases h:i=A.length
 ·subst h
  rw [List.take_length] at hv
  refine G0 ?_;try with_reducible exact tt
  refine AW.cond rfl (fun h=>?_) (fun h=>?_)
  ·simp at h
  refine AW.exit ?_
  (try (simp -implicitDefEqProofs;try simp (disch:=omega) only [w64,wu64]))
  have hcell:uW ws=(ws.map fun x:Nat=>D.int .u64 x).map V.d:=by simp [uW,U]
  rw [hcell]
  refine AW.freeze 3 1 ⟨199,_⟩ (ws.map fun x:Nat=>.int .u64 x) (by rfl) (by rfl) ?_
  simp [←hl,List.take_of_length_le]
  refine G0 ?_;try with_reducible exact tt
  refine CallS.pu (o_kg ws hs (by omega)) (R0 ?_);try with_reducible exact tt
  refine Sub1.of ?_
  rw [hv]
 ·have hi':i<A.length:=by omega
  have hp:(i:Int)<A.length:=by omega
  refine G1 (fs hi' hp) ?_;try with_reducible exact tt
  refine AW.cond rfl (fun h=>?_) (fun h=>?_)
  ·refine G1 (fs hi' hp) ?_;try with_reducible exact tt
   have hwA:A[i]=A.getD i 0:=o_kf hi'
   have hx:A[i]<18446744073709551616:=hsA _ (List.getElem_mem _)
   generalize A[i]=x at hwA hx ⊢
   refine AW.loopT (α:=Nat×Nat×List Nat) 4 (fun s=>[(33,.d (.int .i64 (s.1:Int))),(8,.d (.int .u64 (s.2.1:Int)))]) (fun s=>[(3,⟨199,uW s.2.2⟩)]) (fun s=>s.1≤B.length∧s.2.1<18446744073709551616∧s.2.2.length=A.length+B.length∧small s.2.2∧wval s.2.2+18446744073709551616^(i+s.1)*s.2.1=wval (A.take i)*wval B+18446744073709551616^i*(x*wval (B.take s.1))∧∀j,i+B.length≤j→s.2.2.getD j 0=0) (fun s=>B.length-s.1) (0,0,ws) ?_ ?_ ⟨Nat.zero_le _,by simp,hl,hs,by simp [hv,wval],hz⟩ ?_ ?_ ?_
   ·simp
   ·simp
   ·simp
   ·simp [o_mo]
   clear hl hs hv hz
   rintro ⟨k,c,ws'⟩ ⟨hk,hc,hl,hs,hv,hz⟩
   simp only at hk hc hl hs hv hz
   simp
   have hlen':((i:Int)+B.length).toNat=i+B.length:=by omega
   have ew:IntKind.i64.wrap ((i:Int)+B.length)=((i+B.length:Nat):Int):=w64 (by omega) (by omega)
   have eu:=o_ml ws'
   have eset:=fun j v=>o_mn ws' j v
   by_cases hkl:k=B.length
   ·subst hkl
    rw [List.take_length] at hv
    refine G0 ?_;try with_reducible exact tt
    refine AW.cond rfl (fun h=>?_) (fun h=>?_)
    ·simp at h
    have hg:(uW ws').length=A.length+B.length:=by rw [eu];exact hl
    have e2:IntKind.i64.wrap ((i:Int)+1)=(i:Int)+1:=w64 (by omega) (by omega)
    refine G1 (fs hg (fs eset e2)) ?_;try with_reducible exact tt
    refine ⟨i+1,ws'.set (i+B.length) c,⟨hi',by simp [hl],o_mk hs _ _ hc,?_,fun j hj=>?_⟩,by omega,by simp,by rw [hlen'];simp,o_mo _ _⟩
    ·have h1:=o_mj ws' (i+B.length) c (by omega)
     rw [hz _ (Nat.le_refl _),Nat.mul_zero,Nat.add_zero] at h1
     rw [h1,hv,o_jv,Nat.add_mul,hwA,Nat.mul_assoc]
    ·have h1:=hz j (by omega)
     rw [List.getD] at h1
     rw [List.getElem?_set_ne (by omega)]
     exact h1
   ·have hk':k<B.length:=by omega
    have hkp:(k:Int)<B.length:=by omega
    refine G1 (fs hk' hkp) ?_;try with_reducible exact tt
    refine AW.cond rfl (fun h=>?_) (fun h=>?_)
    ·have hy:B[k]<18446744073709551616:=hsB _ (List.getElem_mem _)
     have hwB:B[k]=B.getD k 0:=o_kf hk'
     have hg:(uW ws').length=A.length+B.length:=by rw [eu];exact hl
     have hik:i+k<ws'.length:=by omega
     have hik2:((i:Int)+k).toNat=i+k:=by omega
     have ewk:IntKind.i64.wrap ((i:Int)+k)=(i:Int)+k:=w64 (by omega) (by omega)
     have hgo:=o_mm hik
     have ho:=hs.getD (i+k)
     have hset:=fun v=>o_mj ws' (i+k) v hik
     generalize hO:ws'.getD (i+k) 0=o at hgo ho hset
     have e2:IntKind.i64.wrap ((k:Int)+1)=(k:Int)+1:=w64 (by omega) (by omega)
     refine G1 (fs hk' hkp) ?_;try with_reducible exact tt
     generalize B[k]=y at hy hwB ⊢
     have hmul:=o_mf x y hx hy
     have l0:x*y%18446744073709551616<18446744073709551616:=Nat.mod_lt _ (by decide)
     have hxy:x*y≤18446744073709551615*18446744073709551615:=Nat.mul_le_mul (by omega) (by omega)
     have hdm:=Nat.div_add_mod (x*y) 18446744073709551616
     obtain ⟨hi',hhi⟩:∃q,q=x*y/18446744073709551616:=⟨_,rfl⟩
     obtain ⟨lo,hlo⟩:∃q,q=x*y%18446744073709551616:=⟨_,rfl⟩
     obtain ⟨xy,hxyd⟩:∃q,q=x*y:=⟨_,rfl⟩
     rw [←hhi,←hlo] at hmul
     rw [←hlo] at l0
     rw [←hhi,←hlo,←hxyd] at hdm
     rw [←hxyd] at hxy
     obtain ⟨l1,k1,hl1,hll1,hk1⟩:∃l1 k1:Nat,lo+o+0=l1+18446744073709551616*k1∧l1<18446744073709551616∧k1≤1:=⟨(lo+o)%18446744073709551616,(lo+o)/18446744073709551616,by omega,by omega,by omega⟩
     obtain ⟨l2,k2,hl2,hll2,hk2⟩:∃l2 k2:Nat,l1+c+0=l2+18446744073709551616*k2∧l2<18446744073709551616∧k2≤1:=⟨(l1+c)%18446744073709551616,(l1+c)/18446744073709551616,by omega,by omega,by omega⟩
     have htot:xy+o+c=l2+18446744073709551616*(hi'+k1+k2):=by omega
     have hhl:hi'+k1+k2<18446744073709551616:=by omega
     have w1:IntKind.u64.wrap ((hi':Int)+k1)=((hi'+k1:Nat):Int):=wu64 (by omega) (by omega)
     have w2:IntKind.u64.wrap (((hi'+k1:Nat):Int)+k2)=((hi'+k1+k2:Nat):Int):=wu64 (by omega) (by omega)
     clear hhi hlo
     refine CallS.pu (hmul) (R1 (fs hg (fs hgo (fs hik2 ewk))) ?_);try with_reducible exact tt
     generalize hi'+k1=h1 at *
     generalize h1+k2=h2 at *
     refine CallS.pu (o_kl lo o 0 l1 k1 l0 ho (by omega) hll1 hl1) (R1 w1 ?_);try with_reducible exact tt
     refine CallS.pu (o_kl l1 c 0 l2 k2 hll1 hc (by omega) hll2 hl2) (R1 (fs w2 (fs hg (fs hik2 (fs ewk (fs eset e2))))) ?_);try with_reducible exact tt
     refine ⟨k+1,h2,ws'.set (i+k) l2,⟨hk',hhl,by simpa using hl,o_mk hs _ _ hll2,?_,fun j hj=>?_⟩,by omega,by simp,Subs.refl _,o_mo _ _⟩
     ·have hs2:=hset l2
      have e1:x*wval (B.take (k+1))=x*wval (B.take k)+18446744073709551616^k*xy:=by
       rw [o_jv,←hwB,Nat.mul_add,hxyd]
       congr 1
       rw [←Nat.mul_assoc,Nat.mul_comm x,Nat.mul_assoc]
      rw [e1,Nat.mul_add,←Nat.mul_assoc (18446744073709551616^i) (18446744073709551616^k) xy,←Nat.pow_add,←Nat.add_assoc i k 1,Nat.pow_succ]
      exact o_mp hs2 hv htot
     ·have h1:=hz j hj
      rw [←List.getD_eq_getElem?_getD]
      rw [List.getD] at h1 ⊢
      rw [List.getElem?_set_ne (by omega)]
      exact h1
    ·simp [hk'] at h
  ·simp [hi'] at h
end
section
open Go.RowKit
theorem o_mr {x:Nat} (h:x<18446744073709551616):size x≤1:=by
 rw [size]
 rcases Nat.eq_zero_or_pos x with rfl | h0
 ·simp [words,wordsF]
 ·rw [o_lc h0 h];simp

theorem o_ms (a:Nat):Eqn Tryz.prog o_bc [.d (.bool false),.d (.agg [natW a])] [] (.d (.agg [natW a,.bool false])) []:=by
 refine Eqn.pure o_be (o_5d _) ?_
 refine cc (c':=?z21) ?_ ?_
 case refine_1=>cbv<;>exact rfl
 refine G0 ?_;try with_reducible exact tt

theorem o_mt (a:Nat) (s:Bool):Eqn Tryz.prog o_b6 [.d (.agg [natW a,.bool s])] [] (.d (.agg [natW a])) []:=by
 refine Eqn.pure o_b8 (o_5d _) ?_
 refine cc (c':=?z22) ?_ ?_
 case refine_1=>cbv<;>exact rfl
 refine G0 ?_;try with_reducible exact tt

theorem o_mu (a:Nat) (s:Bool):Eqn Tryz.prog o_bf [.d (.agg [natW a,.bool s])] [] (.d (.bool s)) []:=by
 refine Eqn.pure o_bh (o_5d _) ?_
 refine cc (c':=?z23) ?_ ?_
 case refine_1=>cbv<;>exact rfl
 refine G0 ?_;try with_reducible exact tt

theorem o_mv (n:Nat) (h:n<9223372036854775808):Eqn Tryz.prog o_86 [.d (.int .i64 n)] [] (.d (.agg [natW n,.bool false])) []:=by
 refine Eqn.pure o_88 (o_5d _) ?_
 refine cc (c':=?z24) ?_ ?_
 case refine_1=>cbv<;>exact rfl
 have h0:¬(n:Int)<0:=by omega
 refine G0 ?_;try with_reducible exact tt
 refine AW.cond rfl (fun h=>?_) (fun h=>?_)
 ·simp [h0] at h
 have e:IntKind.u64.wrap (n:Int)=n:=wu64 (by omega) (by omega)
 refine G1 e ?_;try with_reducible exact tt
 refine CallS.pf 1 1 ⟨199,_⟩ [.int .u64 n] (o_kh [n] (o_ld (by omega)) (by simp)) (by first | rfl | (simp;done)) (R0 ?_);try with_reducible exact tt
 refine CallS.pu (o_ms n) (R0 ?_);try with_reducible exact tt

theorem o_mw (a d:Nat) (s:Bool) (h:size d≤1000000):Eqn Tryz.prog o_a0 [.d (.agg [natW a,.bool s,natW d])] [] (.d (.agg [natW (d+1)])) []:=by
 refine Eqn.pure o_a2 (o_5d _) ?_
 refine cc (c':=?z25) ?_ ?_
 case refine_1=>cbv<;>exact rfl
 refine G0 ?_;try with_reducible exact tt
 refine CallS.pf 2 1 ⟨199,_⟩ [.int .u64 (1:Nat)] (o_kh [1] (o_ld (by omega)) (by simp)) (by first | rfl | (simp;done)) (R0 ?_);try with_reducible exact tt
 refine CallS.pu (o_ky d 1 h (by have:=o_mr (x:=1) (by omega);omega)) (R0 ?_);try with_reducible exact tt
theorem o_mx (a b:Nat) (ha:a<18446744073709551616) (h0:0<b) (hb:b<18446744073709551616):Eqn Tryz.prog o_a6 [.d (.agg [natW a,.bool false]),.d (.agg [natW b])] [] (.d (.agg [natW (a/Nat.gcd a b),.bool false,natW (b/Nat.gcd a b-1)])) []:=by
 refine Eqn.pure o_a8 (o_5d _) ?_
 refine cc (c':=?z27) ?_ ?_
 case refine_1=>cbv<;>exact rfl
 have hg:0<Nat.gcd a b:=Nat.gcd_pos_of_pos_right _ h0
 have hg2:Nat.gcd a b≤b:=Nat.gcd_le_right _ h0
 have hq:0<b/Nat.gcd a b:=Nat.div_pos hg2 hg
 have hq2:b/Nat.gcd a b≤b:=Nat.div_le_self _ _
 refine G0 ?_;try with_reducible exact tt
 refine CallS.pu (o_mt a false) (R0 ?_);try with_reducible exact tt
 refine CallS.pu (o_li a b ha hb) (R0 ?_);try with_reducible exact tt
 generalize Nat.gcd a b=g at *
 refine CallS.pu (o_mt a false) (R0 ?_);try with_reducible exact tt
 refine CallS.pu (o_lh a g ha hg (by omega)) (R0 ?_);try with_reducible exact tt
 refine CallS.pu (o_lh b g hb hg (by omega)) (R0 ?_);try with_reducible exact tt
 refine CallS.pf 8 1 ⟨199,_⟩ [.int .u64 (1:Nat)] (o_kh [1] (o_ld (by omega)) (by simp)) (by first | rfl | (simp;done)) (R0 ?_);try with_reducible exact tt
 refine CallS.pu (o_l2 (b/g) 1 (by have:=o_mr (x:=b/g) (by omega);omega) (by omega)) (R0 ?_);try with_reducible exact tt
 refine CallS.pu (o_mu a false) (R0 ?_);try with_reducible exact tt
 refine CallS.pu (o_ms (a/g)) (R0 ?_);try with_reducible exact tt

theorem o_my (k:Nat) (hk:k<64):Eqn Tryz.prog o_e7 [.d (.int .i64 k)] [] (.tup [.d (.agg [natW 1,.bool false,natW (2^k-1)]),.d (.int .i64 0)]) []:=by
 refine Eqn.pure o_e9 (o_kw _ _) ?_
 refine cc (c':=?z28) ?_ ?_
 case refine_1=>cbv<;>exact rfl
 refine G0 ?_;try with_reducible exact tt
 refine CallS.pf 1 1 ⟨199,_⟩ [.int .u64 (1:Nat)] (o_kh [1] (o_ld (by omega)) (by simp)) (by first | rfl | (simp;done)) (R0 ?_);try with_reducible exact tt
 refine CallS.pu (o_lb 1 k (by have:=o_mr (x:=1) (by omega);omega) (by omega)) (R0 ?_);try with_reducible exact tt
 refine AW.cond rfl (fun h=>?_) (fun h=>?_)
 ·simp at h
 refine G0 ?_;try with_reducible exact tt
 refine CallS.pu (o_mv 1 (by omega)) (R0 ?_);try with_reducible exact tt
 refine CallS.pu (o_mx 1 (2^k) (by omega) (Nat.two_pow_pos k) (Nat.pow_lt_pow_right (by omega) hk)) (R0 ?_);try with_reducible exact tt
end
section
open Go.RowKit
theorem o_mz {x n m:Nat} (h:x<2^n) (hm:n≤64*m):size x≤m:=by
 apply o_jt (o_k9 x)
 rw [o_k7,show (18446744073709551616:Nat)=2^64 by rfl,←Nat.pow_mul]
 exact Nat.lt_of_lt_of_le h (Nat.pow_le_pow_right (by omega) hm)
def splitW (y:Nat):List Nat→List Nat×Nat
 | []=>([],0)
 | x::l=>(((splitW y l).2*18446744073709551616+x)/y::(splitW y l).1,((splitW y l).2*18446744073709551616+x)%y)
theorem o_n0 {y:Nat} (h0:0<y):∀{l:List Nat},small l→wval l=wval (splitW y l).1*y+(splitW y l).2∧(splitW y l).2<y∧small (splitW y l).1∧(splitW y l).1.length=l.length
 | [],_=>⟨by simp [splitW,wval],h0,by simp [small,splitW],rfl⟩
 | x::l,h=>by
  have hx:=h x (by simp)
  obtain ⟨h1,h2,h3,h4⟩:=o_n0 h0 (l:=l) (fun z hz=>h z (by simp [hz]))
  simp only [splitW,wval,List.length_cons,h4]
  generalize splitW y l=s at *
  obtain ⟨Q,r⟩:=s
  simp only at *
  have hd:=Nat.div_add_mod (r*18446744073709551616+x) y
  have hm:=Nat.mod_lt (r*18446744073709551616+x) h0
  have hq:(r*18446744073709551616+x)/y<18446744073709551616:=by
   rw [Nat.div_lt_iff_lt_mul h0]
   have:(r+1)*18446744073709551616≤y*18446744073709551616:=Nat.mul_le_mul_right _ h2
   omega
  refine ⟨?_,hm,?_,trivial⟩
  ·rw [Nat.mul_comm y] at hd
   have e:18446744073709551616*(wval Q*y+r)=18446744073709551616*wval Q*y+r*18446744073709551616:=by rw [Nat.mul_add,Nat.mul_assoc,Nat.mul_comm r]
   rw [h1,e,Nat.add_mul]
   obtain ⟨z,hz⟩:∃z,z=(r*18446744073709551616+x)%y:=⟨_,rfl⟩
   obtain ⟨z2,hz2⟩:∃z,z=(r*18446744073709551616+x)/y*y:=⟨_,rfl⟩
   obtain ⟨z3,hz3⟩:∃z,z=18446744073709551616*wval Q*y:=⟨_,rfl⟩
   rw [←hz,←hz2] at hd
   rw [←hz,←hz2,←hz3]
   omega
  ·intro z hz
   rcases List.mem_cons.1 hz with rfl | hz
   ·exact hq
   ·exact h3 z hz

theorem o_n1 {y:Nat} (h0:0<y) {l:List Nat} (h:small l):wval (splitW y l).1=wval l/y∧(splitW y l).2=wval l%y:=by
 obtain ⟨h1,h2,_,_⟩:=o_n0 h0 h
 rw [h1]
 constructor
 ·rw [Nat.mul_comm,Nat.mul_add_div h0,Nat.div_eq_of_lt h2,Nat.add_zero]
 ·rw [Nat.mul_comm,Nat.mul_add_mod];exact (Nat.mod_eq_of_lt h2).symm

def splitC (y:Nat) (ws:List Nat) (k:Nat):List V:=U (List.replicate k 0++(splitW y (ws.drop k)).1)
theorem o_n2 {y:Nat} (h0:0<y) {ws:List Nat} (hs:small ws) {k:Nat} (hk:k≤ws.length):(splitC y ws k).length=ws.length:=by
 have:=(o_n0 h0 (l:=ws.drop k) (fun x hx=>hs x (List.mem_of_mem_drop hx))).2.2.2
 simp [splitC,U,this];omega

set_option maxHeartbeats 2000000 in
theorem o_n3 (ws:List Nat) (y:Nat) (hs:small ws) (hn:ws.length≤1000000) (h0:0<y) (hy:y<18446744073709551616):Eqn Tryz.prog o_d4 [.d (W ws),.d (.int .u64 y)] [] (.tup [.d (W (splitW y ws).1),.d (.int .u64 (splitW y ws).2)]) []:=by
 refine Eqn.pure o_d6 (o_kw _ _) ?_
 refine cc (c':=?z29) ?_ ?_
 case refine_1=>cbv<;>exact rfl
 try simp only [W]
 have hlen:=(o_n0 h0 hs).2.2.2
 rw [hlen]
 have hlowC:∀k,V.lowl 1 (splitC y ws k)=true:=fun k=>o_l8 1 _
 refine G0 ?_;try with_reducible exact tt
 rw [show List.replicate ws.length (V.d (.int .u64 0))=splitC y ws ws.length by simp [splitC,U,splitW]]
 refine AW.loopT (α:=Nat) 1 (fun k=>[(8,.d (.int .i64 ((k:Int)-1))),(7,.d (.int .u64 ((splitW y (ws.drop k)).2:Nat)))]) (fun k=>[(0,⟨199,splitC y ws k⟩)]) (fun k=>k≤ws.length) (fun k=>k) ws.length ?_ ?_ (Nat.le_refl _) ?_ ?_ ?_
 ·simp
 ·simp
 ·simp [splitW]
 ·simp [hlowC]
 rintro k hk
 simp
 cases k with
 | zero =>
  refine G0 ?_;try with_reducible exact tt
  refine AW.cond rfl (fun h=>?_) (fun h=>?_)
  ·simp at h
  refine AW.exit ?_
  (try (simp -implicitDefEqProofs;try simp (disch:=omega) only [w64,wu64]))
  rw [show splitC y ws 0=((splitW y ws).1.map fun x:Nat=>D.int .u64 x).map V.d by simp [splitC,U]]
  refine AW.freeze 0 1 ⟨199,_⟩ ((splitW y ws).1.map fun x:Nat=>.int .u64 x) (by rfl) (by rfl) ?_
  simp [←hlen,List.take_of_length_le]
  refine G0 ?_;try with_reducible exact tt
 | succ k =>
  have hk':k<ws.length:=hk
  have hdrop:ws.drop k=ws[k]::ws.drop (k+1):=List.drop_eq_getElem_cons hk'
  obtain ⟨i1,i2,i3,i4⟩:=o_n0 h0 (l:=ws.drop (k+1)) (fun x hx=>hs x (List.mem_of_mem_drop hx))
  have hl:=o_n2 h0 hs hk
  have hset:(splitC y ws (k+1)).set k (.d (.int .u64 (((splitW y (ws.drop (k+1))).2*18446744073709551616+ws[k])/y:Nat)))=splitC y ws k:=by
   rw [splitC,splitC,hdrop,splitW,U,U,List.replicate_succ',List.append_assoc,List.map_append,List.map_append,List.set_append_right _ _ (by simp)]
   simp
  have hrest:(splitW y (ws.drop k)).2=((splitW y (ws.drop (k+1))).2*18446744073709551616+ws[k])%y:=by rw [hdrop,splitW]
  have hx:ws[k]<18446744073709551616:=hs _ (List.getElem_mem _)
  have hdv:=o_mi (splitW y (ws.drop (k+1))).2 ws[k] y i2 hx hy
  rw [←hrest] at hdv
  generalize (splitW y (ws.drop (k+1))).2=r at *
  have e0:(0:Int)≤(k:Int)+1-1:=by omega
  have e1:(k:Int)+1-1=k:=by omega
  have e2:(((k:Int)+1-1)).toNat=k:=by omega
  have e3:IntKind.i64.wrap ((k:Int)-1)=(k:Int)-1:=w64 (by omega) (by omega)
  generalize hxk:ws[k]=x at *
  generalize hqd:(r*18446744073709551616+x)/y=q at *
  generalize hr'':(splitW y (ws.drop k)).2=r' at *
  refine G1 (fs e0 (fs e1 (fs e2 hk'))) ?_;try with_reducible exact tt
  refine AW.cond rfl (fun h=>?_) (fun h=>?_)
  ·refine G1 (fs e0 (fs e1 (fs e2 (fs hk' hxk)))) ?_;try with_reducible exact tt
   refine CallS.pu (hdv) (R1 (fs e1 (fs hl (fs hk' (fs hset e3)))) ?_);try with_reducible exact tt
   refine ⟨k,by omega,by omega,?_⟩
   rw [hr'']
   simp [hlowC]
  ·simp at h

theorem o_n4 (a b:Nat) (ha:size a≤1000000) (h0:0<b) (hb:b<18446744073709551616∨a<b) (hbs:size b≤1000000):Eqn Tryz.prog o_dj [.d (.agg [natW a]),.d (.agg [natW b])] [] (.tup [.d (.agg [natW (a/b)]),.d (.agg [natW (a%b)]),.d (.int .i64 0)]) []:=by
 refine Eqn.pure o_dl (o_kx _ _ _) ?_
 refine cc (c':=?z30) ?_ ?_
 case refine_1=>cbv<;>exact rfl
 refine G0 ?_;try with_reducible exact tt
 refine CallS.pu (o_ki b) (R0 ?_);try with_reducible exact tt
 have hz:(b==0)=false:=by simp;omega
 refine AW.cond rfl (fun h=>?_) (fun h=>?_)
 ·simp [hz] at h
 refine G0 ?_;try with_reducible exact tt
 refine CallS.pu (o_kk a b ha hbs) (R0 ?_);try with_reducible exact tt
 refine AW.cond rfl (fun h=>?_) (fun h=>?_)
 ·have hlt:a<b:=by simpa [o_le] using h
  rw [Nat.div_eq_of_lt hlt,Nat.mod_eq_of_lt hlt]
  refine G0 ?_;try with_reducible exact tt
  refine CallS.pu (o_kh (words a) (o_k8 a) (by unfold size at ha;omega)) (R0 ?_);try with_reducible exact tt
  rw [o_k7]
  exact Sub1.tup (Subs.cons (Sub1.nat0) (Subs.refl _))
 ·have hge:¬a<b:=fun hlt=>by simp [o_le,hlt] at h
  have hb1:b<18446744073709551616:=by omega
  have e':natW b = .sl 1 [.int .u64 b]:=by rw [natW,o_lc (by omega) hb1];rfl
  have hsp:=o_n3 (words a) b (o_k8 a) (by unfold size at ha;omega) h0 hb1
  obtain ⟨q1,q2,q3,q4⟩:=o_n0 h0 (o_k8 a)
  have hd:=o_n1 h0 (o_k8 a)
  rw [o_k7] at hd
  have htr:=o_kg (splitW b (words a)).1 q3 (by unfold size at ha;omega)
  rw [hd.1] at htr
  rw [hd.2] at hsp q2
  rw [show W (words a)=natW a from rfl] at hsp
  generalize (splitW b (words a)).1=qs at *
  refine G1 e' ?_;try with_reducible exact tt
  refine AW.cond rfl (fun h=>?_) (fun h=>?_)
  ·refine G1 e' ?_;try with_reducible exact tt
   refine CallS.pu (hsp) (R0 ?_);try with_reducible exact tt
   refine CallS.pu (htr) (R0 ?_);try with_reducible exact tt
   refine CallS.pf 4 1 ⟨199,_⟩ [.int .u64 (a%b:Nat)] (o_kh [a%b] (o_ld (by omega)) (by simp)) (by first | rfl | (simp;done)) (R0 ?_);try with_reducible exact tt
   simp [wval]
  ·simp [e'] at h

theorem o_n5 (b:Nat) (hb:0<b) (hbs:size b≤1000000):Eqn Tryz.prog o_dg [.d (.agg [natW 1]),.d (.agg [natW b])] [] (.d (.agg [natW 1])) []:=by
 refine Eqn.pure o_di (o_5d _) ?_
 refine cc (c':=?z31) ?_ ?_
 case refine_1=>cbv<;>exact rfl
 have s1:size 1≤1:=o_mr (by omega)
 refine G0 ?_;try with_reducible exact tt
 refine AW.loopT (α:=Nat×Nat) 3 (fun _=>[]) (fun p=>[(0,⟨43,[.d (natW p.1)]⟩),(1,⟨43,[.d (natW p.2)]⟩)]) (fun p=>(p=(1,b)∨(p=(b,1)∧1<b)∨p=(1,0))) (fun p=>if p=(1,b)∧0<b then 3 else if p.2=0 then 1 else 2) (1,b) ?_ ?_ (.inl rfl) ?_ ?_ ?_
 ·simp
 ·simp
 ·simp
 ·simp
 rintro ⟨x,y⟩ hxy
 simp
 have hy:size y≤1000000∧size x≤1000000:=by
  rcases hxy with h | ⟨h,_⟩ | h<;>cases h
  ·exact ⟨hbs,by omega⟩
  ·exact ⟨by omega,hbs⟩
  ·exact ⟨by rw [show size 0=0 from rfl];omega,by omega⟩
 refine G0 ?_;try with_reducible exact tt
 refine CallS.pu (o_ki y) (R0 ?_);try with_reducible exact tt
 by_cases h0:y=0
 ·subst h0
  have hx:x=1:=by
   rcases hxy with h | ⟨h,_⟩ | h<;>cases h
   ·omega
   ·rfl
  subst hx
  simp
  refine AW.cond rfl (fun h=>?_) (fun h=>?_)
  ·simp at h
  refine AW.exit ?_
  (try (simp -implicitDefEqProofs;try simp (disch:=omega) only [w64,wu64]))
  refine G0 ?_;try with_reducible exact tt
  refine CallS.pu (o_kh (words 1) (o_k8 1) (by unfold size at s1;omega)) (R0 ?_);try with_reducible exact tt
  refine Sub1.of ?_
  rw [o_k7]
 ·refine AW.cond rfl (fun h=>?_) (fun h=>?_)
  ·refine G0 ?_;try with_reducible exact tt
   have hd:y<18446744073709551616∨x<y:=by
    rcases hxy with h | ⟨h,h1⟩ | h<;>cases h
    ·rcases Nat.lt_or_ge 1 b with h | h
     ·exact .inr h
     ·exact .inl (by omega)
    ·exact .inl (by omega)
    ·exact absurd rfl h0
   refine CallS.pu (o_n4 x y hy.2 (by omega) hd hy.1) (R0 ?_);try with_reducible exact tt
   rcases hxy with h | ⟨h,h1⟩ | h<;>cases h
   ·rcases Nat.lt_or_ge 1 b with h | h
    ·refine .inr (.inl ⟨b,1,⟨⟨rfl,rfl⟩,h⟩,?_,Subs.refl _,?_⟩)
     ·rw [if_neg (by omega),if_neg (by omega),if_pos ⟨⟨rfl,rfl⟩,hb⟩]
      omega
     ·rw [Nat.mod_eq_of_lt h];exact Subs.refl _
    ·obtain rfl:b=1:=by omega
     exact .inr (.inr ⟨by simp,Subs.refl _,by simp⟩)
   ·refine .inr (.inr ⟨?_,Subs.refl _,by rw [Nat.mod_one];exact Subs.refl _⟩)
    rw [if_neg (by omega),if_neg (by omega),if_neg (by omega)]
    omega
   ·exact absurd rfl h0
  ·simp at h
   exact absurd h h0

theorem o_n6 (b:Nat) (h0:0<b) (hb:size b≤1000000):Eqn Tryz.prog o_a6 [.d (.agg [natW 1,.bool false]),.d (.agg [natW b])] [] (.d (.agg [natW 1,.bool false,natW (b-1)])) []:=by
 refine Eqn.pure o_a8 (o_5d _) ?_
 refine cc (c':=?z32) ?_ ?_
 case refine_1=>cbv<;>exact rfl
 have s1:size 1≤1:=o_mr (by omega)
 have h1:=o_n4 1 1 (by omega) (by omega) (.inl (by omega)) (by omega)
 have h2:=o_n4 b 1 hb (by omega) (.inl (by omega)) (by omega)
 rw [Nat.div_one] at h1 h2
 refine G0 ?_;try with_reducible exact tt
 refine CallS.pu (o_mt 1 false) (R0 ?_);try with_reducible exact tt
 refine CallS.pu (o_n5 b h0 hb) (R0 ?_);try with_reducible exact tt
 refine CallS.pu (o_mt 1 false) (R0 ?_);try with_reducible exact tt
 refine CallS.pu (h1) (R0 ?_);try with_reducible exact tt
 refine CallS.pu (h2) (R0 ?_);try with_reducible exact tt
 refine CallS.pf 8 1 ⟨199,_⟩ [.int .u64 (1:Nat)] (o_kh [1] (o_ld (by omega)) (by simp)) (by first | rfl | (simp;done)) (R0 ?_);try with_reducible exact tt
 refine CallS.pu (o_l2 b 1 hb (by omega)) (R0 ?_);try with_reducible exact tt
 refine CallS.pu (o_mu 1 false) (R0 ?_);try with_reducible exact tt
 refine CallS.pu (o_ms 1) (R0 ?_);try with_reducible exact tt

theorem o_n7 (k:Nat) (hk:k≤8192):size (2^k)≤129:=o_mz (n:=k+1) (Nat.pow_lt_pow_right (by omega) (Nat.lt_succ_self _)) (by omega)
theorem o_n8 (k:Nat) (hk:k≤8192):Eqn Tryz.prog o_e7 [.d (.int .i64 k)] [] (.tup [.d (.agg [natW 1,.bool false,natW (2^k-1)]),.d (.int .i64 0)]) []:=by
 refine Eqn.pure o_e9 (o_kw _ _) ?_
 refine cc (c':=?z33) ?_ ?_
 case refine_1=>cbv<;>exact rfl
 have hs:=o_n7 k hk
 have hp:=Nat.two_pow_pos k
 have s1:size 1≤1:=o_mr (by omega)
 have h1:=o_lb 1 k (by omega) hk
 rw [Nat.one_mul] at h1
 generalize 2^k=b at *
 refine G0 ?_;try with_reducible exact tt
 refine CallS.pf 1 1 ⟨199,_⟩ [.int .u64 (1:Nat)] (o_kh [1] (o_ld (by omega)) (by simp)) (by first | rfl | (simp;done)) (R0 ?_);try with_reducible exact tt
 refine CallS.pu (h1) (R0 ?_);try with_reducible exact tt
 refine AW.cond rfl (fun h=>?_) (fun h=>?_)
 ·simp at h
 refine G0 ?_;try with_reducible exact tt
 refine CallS.pu (o_mv 1 (by omega)) (R0 ?_);try with_reducible exact tt
 refine CallS.pu (o_n6 b hp (by omega)) (R0 ?_);try with_reducible exact tt
end
section
def wordsN:Nat→Nat→List Nat
 | 0,_=>[]
 | m+1,x=>x%18446744073709551616::wordsN m (x/18446744073709551616)
theorem o_n9:∀m x,(wordsN m x).length=m
 | 0,_=>rfl
 | m+1,x=>by simp [wordsN,o_n9 m]
theorem o_na:∀m x,small (wordsN m x)
 | 0,_=>by simp [wordsN,small]
 | m+1,x=>by
  intro y hy
  rw [wordsN,List.mem_cons] at hy
  rcases hy with rfl | hy
  ·omega
  ·exact o_na m _ y hy
theorem o_nb:∀m x,x<18446744073709551616^m→wval (wordsN m x)=x
 | 0,x,h=>by simp at h;simp [wordsN,wval,h]
 | m+1,x,h=>by
  rw [wordsN,wval,o_nb m _ (by rw [Nat.pow_succ] at h;rw [Nat.div_lt_iff_lt_mul (by decide)];exact h)]
  omega
theorem o_nc:∀{l:List Nat},small l→wordsN l.length (wval l)=l
 | [],_=>rfl
 | x::l,h=>by
  have hx:=h x (by simp)
  have hl:small l:=fun y hy=>h y (by simp [hy])
  rw [List.length_cons,wordsN,wval]
  congr 1
  ·omega
  ·rw [show (x+18446744073709551616*wval l)/18446744073709551616=wval l by omega];exact o_nc hl
theorem o_nd {l:List Nat} {m x:Nat} (h:small l) (hl:l.length=m) (hv:wval l=x):l=wordsN m x:=by rw [←hl,←hv,o_nc h]

def ovr (ws:List Nat) (k:Nat) (l:List Nat):List Nat:=ws.take k++(l++ws.drop (k+l.length))
theorem o_ne {ws:List Nat} {k:Nat} {l:List Nat} (h:k+l.length≤ws.length):(ovr ws k l).length=ws.length:=by simp [ovr];omega
theorem o_nf {ws:List Nat} {k:Nat} {l:List Nat} (h:small ws) (hl:small l):small (ovr ws k l):=by
 intro x hx
 simp only [ovr,List.mem_append] at hx
 rcases hx with hx | hx | hx
 ·exact h x (List.mem_of_mem_take hx)
 ·exact hl x hx
 ·exact h x (List.mem_of_mem_drop hx)
theorem o_ng (ws:List Nat) (k:Nat):ovr ws k []=ws:=by simp [ovr]
theorem o_nh {ws:List Nat} {k:Nat} {l:List Nat} (h:k+l.length<ws.length):(ovr ws k l).getD (k+l.length) 0=ws.getD (k+l.length) 0:=by
 simp only [ovr,List.getD_eq_getElem?_getD]
 congr 1
 rw [List.getElem?_append_right (by rw [List.length_take];omega),List.length_take,Nat.min_eq_left (by omega),List.getElem?_append_right (by omega),List.getElem?_drop]
 congr 1;omega
theorem o_ni {ws:List Nat} {k:Nat} {l:List Nat} (h:k+l.length<ws.length) (v:Nat):(ovr ws k l).set (k+l.length) v=ovr ws k (l++[v]):=by
 have e:ws.drop (k+l.length)=ws.getD (k+l.length) 0::ws.drop (k+(l.length+1)):=by
  rw [List.getD_eq_getElem?_getD,List.getElem?_eq_getElem h,Option.getD_some,←Nat.add_assoc]
  exact List.drop_eq_getElem_cons h
 simp only [ovr]
 rw [List.set_append_right _ _ (by rw [List.length_take];omega),List.length_take,Nat.min_eq_left (by omega),show k+l.length-k=l.length by omega,List.set_append_right _ _ (by omega),Nat.sub_self,e]
 simp
theorem o_nj {ws:List Nat} {k:Nat} {l r:List Nat} (h:k+l.length≤ws.length) (hl:l.length≤r.length):ovr (ovr ws k l) k r=ovr ws k r:=by
 simp only [ovr]
 have h1:(ws.take k).length=k:=by rw [List.length_take];omega
 rw [List.take_append_of_le_length (by omega),List.take_of_length_le (by omega)]
 congr 2
 rw [List.drop_append,List.drop_eq_nil_of_le (by omega),List.nil_append,h1,List.drop_append,List.drop_eq_nil_of_le (by omega),List.nil_append,List.drop_drop]
 congr 1;omega
theorem o_nk {ws:List Nat} {k:Nat} {l:List Nat} (h:k+l.length≤ws.length):((ovr ws k l).drop k).take l.length=l:=by
 have h1:(ws.take k).length=k:=by rw [List.length_take];omega
 simp only [ovr]
 rw [List.drop_append,List.drop_eq_nil_of_le (by omega),List.nil_append,h1,Nat.sub_self,List.drop_zero,List.take_append_of_le_length (by omega),List.take_of_length_le (by omega)]
theorem o_nl {ws:List Nat} {k n i:Nat} (h:i<n):((ws.drop k).take n).getD i 0=ws.getD (k+i) 0:=by
 simp only [List.getD_eq_getElem?_getD,List.getElem?_take,if_pos h,List.getElem?_drop]
theorem o_nm {ws:List Nat} {k n:Nat} (h:k+n≤ws.length):((ws.drop k).take n).length=n:=by simp;omega
theorem o_nn {ws:List Nat} (h:small ws) (k:Nat):small (ws.drop k):=fun x hx=>h x (List.mem_of_mem_drop hx)
theorem o_no {l:List Nat} (h:small l) {v:Nat} (hv:v<18446744073709551616):small (l++[v]):=by
 intro x hx
 rw [List.mem_append,List.mem_singleton] at hx
 rcases hx with hx | rfl
 ·exact h x hx
 ·exact hv
theorem o_np (l:List Nat) (v:Nat):wval (l++[v])=wval l+18446744073709551616^l.length*v:=by
 rw [o_ja];simp [wval]
theorem o_nq:small []:=by simp [small]

theorem o_nr {l0 g D0 U0 p bo c x y lo hi l2 k2 nb z:Nat} (hv:l0+g*D0=U0+p*(bo+c)) (hyg:y*g=hi*18446744073709551616+lo) (h1:lo+c=l2+18446744073709551616*k2) (h2:x+18446744073709551616*nb=z+l2+bo) :
  l0+p*z+g*(D0+p*y)=U0+p*x+p*18446744073709551616*(nb+(hi+k2)):=by
 have e1:p*x+18446744073709551616*(p*nb)=p*z+p*l2+p*bo:=by
  have:=congrArg (p * ·) h2
  simp only [Nat.mul_add] at this
  rw [←Nat.mul_assoc,Nat.mul_comm p 18446744073709551616,Nat.mul_assoc] at this
  exact this
 have e2:p*lo+p*c=p*l2+18446744073709551616*(p*k2):=by
  have:=congrArg (p * ·) h1
  simp only [Nat.mul_add] at this
  rw [←Nat.mul_assoc p 18446744073709551616,Nat.mul_comm p 18446744073709551616,Nat.mul_assoc 18446744073709551616] at this
  exact this
 have e3:g*(p*y)=18446744073709551616*(p*hi)+p*lo:=by
  have:=congrArg (p * ·) hyg
  simp only [Nat.mul_add] at this
  rw [←Nat.mul_assoc p hi,Nat.mul_comm (p*hi),←Nat.mul_assoc p y g,Nat.mul_comm (p*y) g] at this
  exact this
 have e4:p*18446744073709551616*(nb+(hi+k2))=18446744073709551616*(p*nb)+18446744073709551616*(p*hi)+18446744073709551616*(p*k2):=by
  rw [Nat.mul_comm p,Nat.mul_assoc,Nat.mul_add,Nat.mul_add,Nat.mul_add,Nat.mul_add];omega
 rw [Nat.mul_add,e3,e4]
 rw [Nat.mul_add] at hv
 omega
theorem o_ns {ws:List Nat} {n:Nat} (h:small ws) (hl:ws.length=n):wval ws<18446744073709551616^n:=by rw [←hl];exact o_jc h
theorem o_nt {u:List Nat} {n z c b x nb gD wl Un:Nat} {l':List Nat} (h1:wval l'=wl+18446744073709551616^n*z) (hv:wl+gD=Un+18446744073709551616^n*(b+c)) (hux:wval u=Un+18446744073709551616^n*x) (hzb:x+18446744073709551616*nb=z+c+b) (hnb:nb≤1) (hs:small l') (hl:l'.length=n+1) (hus:small u) (hul:u.length=n+1) :
  nb=(if wval u<gD then 1 else 0)∧l'=wordsN (n+1) (wval u+(if wval u<gD then 18446744073709551616^(n+1) else 0)-gD):=by
 have e1:wval l'+gD=wval u+18446744073709551616^(n+1)*nb:=by
  have:=congrArg (18446744073709551616^n * ·) hzb
  simp only [Nat.mul_add] at this
  rw [←Nat.mul_assoc,←Nat.pow_succ] at this
  rw [Nat.mul_add] at hv
  simp only [Nat.succ_eq_add_one] at this
  omega
 have hlt:=o_ns hs hl
 have hult:=o_ns hus hul
 generalize 18446744073709551616^(n+1)=M at *
 have hc:nb=0∨nb=1:=by omega
 rcases hc with rfl | rfl
 ·rw [if_neg (by omega),if_neg (by omega)]
  exact ⟨rfl,o_nd hs hl (by omega)⟩
 ·rw [if_pos (by omega),if_pos (by omega)]
  exact ⟨rfl,o_nd hs hl (by omega)⟩
theorem o_nu {u:List Nat} {m gD:Nat} (hus:small u) (hul:u.length=m) (hg:gD≤wval u+18446744073709551616^m):wval (wordsN m (wval u+(if wval u<gD then 18446744073709551616^m else 0)-gD))+gD=wval u+18446744073709551616^m*(if wval u<gD then 1 else 0):=by
 have hult:=o_ns hus hul
 by_cases h:wval u<gD
 ·rw [if_pos h,if_pos h,o_nb _ _ (by omega)];omega
 ·rw [if_neg h,if_neg h,o_nb _ _ (by omega)];omega
theorem o_nv {ws:List Nat} {k:Nat} {l:List Nat} {j:Nat} (h:k+l.length≤ws.length) (hj:j<l.length):(ovr ws k l).getD (k+j) 0=l.getD j 0:=by
 have:=o_nk h
 rw [←o_nl (n:=l.length) hj,this]
theorem o_nw {wr p c wl wd x y z nc:Nat} (hv:wr+p*c=wl+wd) (h:x+y+c=z+18446744073709551616*nc):wr+p*z+p*18446744073709551616*nc=wl+p*x+(wd+p*y):=by
 have:=congrArg (p * ·) h
 simp only [Nat.mul_add] at this
 rw [←Nat.mul_assoc] at this
 omega
theorem o_nx {wr p c wl wd wL x v nv:Nat} (hv:wr+p*c=wl+wd) (hl:wL=wl+p*x) (h:x+c=v+18446744073709551616*nv):wL+wd=wr+p*v+p*18446744073709551616*nv:=by
 have:=congrArg (p * ·) h
 simp only [Nat.mul_add] at this
 rw [←Nat.mul_assoc] at this
 omega
theorem o_ny {d:List Nat} {n:Nat} (_:n<d.length):d.getD n 0*18446744073709551616^n≤wval d:=by
 have h1:=o_jv d n
 have h2:wval d=wval (d.take (n+1))+18446744073709551616^(d.take (n+1)).length*wval (d.drop (n+1)):=by rw [←o_ja,List.take_append_drop]
 rw [h2,h1,Nat.mul_comm]
 omega
theorem o_nz {u:List Nat} {n m:Nat} (hs:small u) (hl:u.length=m+1) (hm:m=n+1):wval u/18446744073709551616^n=u.getD m 0*18446744073709551616+u.getD n 0:=by
 have h1:=o_jv u n
 have h2:=o_jv u m
 rw [List.take_of_length_le (by omega)] at h2
 have h3:=o_k4 hs n
 have hp:0<18446744073709551616^n:=Nat.pow_pos (by decide)
 rw [h2,hm,h1,Nat.pow_succ,Nat.mul_assoc,Nat.add_assoc,←Nat.mul_add,Nat.add_mul_div_left _ _ hp,Nat.div_eq_of_lt h3,Nat.zero_add,Nat.mul_comm 18446744073709551616]
 omega
theorem o_o0 {U0 W1 Bk D S Q BQ:Nat} (h:U0=W1+Bk*S+D*BQ) (hq:BQ=Bk*18446744073709551616*Q):U0=W1+Bk*(S%D)+D*(Bk*(S/D+18446744073709551616*Q)):=by
 have h1:=Nat.div_add_mod S D
 rw [h,hq]
 have e1:Bk*S=Bk*(S%D)+D*(Bk*(S/D)):=by
  conv=>lhs;rw [←h1]
  rw [Nat.mul_add,Nat.mul_left_comm,Nat.add_comm]
 rw [e1,Nat.mul_add Bk,Nat.mul_add D,Nat.mul_assoc Bk]
 omega
theorem o_o1 {ws:List Nat} (k n:Nat) (h:k+n≤ws.length):wval (ws.take (k+n))=wval (ws.take k)+18446744073709551616^k*wval ((ws.drop k).take n):=by
 have e:ws.take (k+n)=ws.take k++(ws.drop k).take n:=by rw [List.take_add]
 rw [e,o_ja,List.length_take,Nat.min_eq_left (by omega)]
theorem o_o2 {n x:Nat} (h:x<18446744073709551616^n):(wordsN (n+1) x).take n=wordsN n x:=by
 have:∀(n x:Nat),(wordsN (n+1) x).take n=wordsN n x:=by
  intro n
  induction n with
  | zero=>intro x;simp [wordsN]
  | succ n ih=>intro x;rw [wordsN,List.take_succ_cons,ih,wordsN]
 exact this n x
theorem o_o3 {ws:List Nat} {k:Nat} {l:List Nat} (h:k≤ws.length):(ovr ws k l).take k=ws.take k:=by
 simp only [ovr]
 rw [List.take_append_of_le_length (by rw [List.length_take];omega),List.take_take,Nat.min_self]
theorem o_o4 {ws:List Nat} {k m:Nat} (h:k<ws.length):wval ((ws.drop k).take (m+1))=ws.getD k 0+18446744073709551616*wval ((ws.drop (k+1)).take m):=by
 rw [List.drop_eq_getElem_cons h,List.take_succ_cons,wval,List.getD_eq_getElem?_getD,List.getElem?_eq_getElem h];rfl
theorem o_o5 {ws:List Nat} {k n x:Nat} (h:k+(n+1)≤ws.length) (hx:x<18446744073709551616^n):wval (((ovr ws k (wordsN (n+1) x)).drop k).take n)=x:=by
 have h1:=o_nk (ws:=ws) (k:=k) (l:=wordsN (n+1) x) (by rw [o_n9];exact h)
 rw [o_n9] at h1
 have h2:((ovr ws k (wordsN (n+1) x)).drop k).take n=(((ovr ws k (wordsN (n+1) x)).drop k).take (n+1)).take n:=by rw [List.take_take,Nat.min_eq_left (by omega)]
 rw [h2,h1,o_o2 hx,o_nb _ _ hx]
theorem o_o6 {k:Nat} {q:List Nat} (v:Nat):(List.replicate (k+1) 0++q).set k v=List.replicate k 0++v::q:=by
 rw [List.replicate_succ',List.append_assoc,List.set_append_right _ _ (by simp)]
 simp
theorem o_o7 {Bw:List Nat} {s:Nat} (hb:wval Bw*2^s<18446744073709551616^Bw.length):wval ((movedL s 0 Bw).take Bw.length)=wval Bw*2^s:=by
 have h1:=o_jj s Bw 0
 have h2:=o_jv (movedL s 0 Bw) Bw.length
 rw [List.take_of_length_le (by rw [o_ji];omega),h1,Nat.add_zero] at h2
 rcases Nat.eq_zero_or_pos ((movedL s 0 Bw).getD Bw.length 0) with h | h
 ·rw [h,Nat.mul_zero,Nat.add_zero] at h2;exact h2.symm
 ·exfalso
  have:18446744073709551616^Bw.length*1≤18446744073709551616^Bw.length*(movedL s 0 Bw).getD Bw.length 0:=Nat.mul_le_mul_left _ h
  omega
end
section
open Go.RowKit
theorem o_o8 (θ:Nat→Nat) (ws:List Nat):V.rens θ (uW ws)=uW ws:=by
 have h:=o_60 θ (ws.map fun x:Nat=>D.int .u64 x)
 rw [List.map_map] at h
 exact h
theorem o_o9 (ws:List Nat):plainL (uW ws):=⟨o_mo 0 ws,fun θ=>o_o8 θ ws⟩

theorem o_oa {y g hi lo:Nat} (hy:y<18446744073709551616) (hg:g<18446744073709551616) (h1:hi=y*g/18446744073709551616) (h2:lo=y*g%18446744073709551616):y*g=hi*18446744073709551616+lo∧lo<18446744073709551616∧hi+1<18446744073709551616:=by
 have hp:y*g≤18446744073709551615*18446744073709551615:=Nat.mul_le_mul (by omega) (by omega)
 generalize y*g=p at *
 omega

def takeR (ws d:List Nat) (k g:Nat):List Nat:=wordsN (d.length+1) (wval ((ws.drop k).take (d.length+1))+(if wval ((ws.drop k).take (d.length+1))<g*wval d then 18446744073709551616^(d.length+1) else 0)-g*wval d)
set_option maxHeartbeats 4000000 in
theorem o_ob (ws d:List Nat) (k g:Nat) (hs:small ws) (hd:small d) (hk:k+d.length+1≤ws.length) (hn:ws.length≤1000000) (hg:g<18446744073709551616) :
  Eqn Tryz.prog o_gs [.row 0 k (d.length+1),.d (W d),.d (.int .u64 g)] [⟨199,uW ws⟩] (.d (.int .i64 (if wval ((ws.drop k).take (d.length+1))<g*wval d then 1 else 0))) [⟨199,uW (ovr ws k (takeR ws d k g))⟩]:=by
 refine Eqn.obj1 o_gu Plain.ok (o_o9 _) ?_
 obtain ⟨u,hu⟩:∃u,u=(ws.drop k).take (d.length+1):=⟨_,rfl⟩
 have hul:u.length=d.length+1:=by rw [hu];exact o_nm (by omega)
 have hus:small u:=by rw [hu];exact (o_nn hs k).take _
 have hug:∀i,i<d.length+1→u.getD i 0=ws.getD (k+i) 0:=fun i hi=>by rw [hu];exact o_nl hi
 rw [takeR,←hu]
 refine cc (c':=?z34) ?_ ?_
 case refine_1=>cbv<;>exact rfl
 try simp only [W]
 refine G0 ?_;try with_reducible exact tt
 refine AW.loopT (α:=Nat×Nat×Nat×List Nat) 1 (fun s=>[(17,.d (.int .i64 (s.1:Int))),(7,.d (.int .u64 (s.2.1:Int))),(8,.d (.int .u64 (s.2.2.1:Int)))]) (fun s=>[(0,⟨199,uW (ovr ws k s.2.2.2)⟩)]) (fun s=>s.1≤d.length∧s.2.1<18446744073709551616∧s.2.2.1≤1∧s.2.2.2.length=s.1∧small s.2.2.2∧wval s.2.2.2+g*wval (d.take s.1)=wval (u.take s.1)+18446744073709551616^s.1*(s.2.2.1+s.2.1)) (fun s=>d.length-s.1) (0,0,0,[]) ?_ ?_ ⟨Nat.zero_le _,by simp,by simp,rfl,o_nq,by simp [wval]⟩ ?_ ?_ ?_
 ·simp
 ·simp
 ·simp
 ·simp [o_ng,o_mo]
 rintro ⟨i,c,b,l⟩ ⟨hi,hc,hb,hl,hsl,hv⟩
 simp only at hi hc hb hl hsl hv
 simp
 have hol:(uW (ovr ws k l)).length=ws.length:=by rw [o_ml,o_ne (by omega)]
 have hget:=o_mm (ws:=ovr ws k l) (j:=k+i) (by rw [←o_ml,hol];omega)
 have hnx:=o_nh (ws:=ws) (k:=k) (l:=l) (by omega)
 rw [hl] at hnx
 rw [hnx,←hug i (by omega)] at hget
 have hx:=hus.getD i
 have hset:∀v:Nat,(uW (ovr ws k l)).set (k+i) (.d (.int .u64 v))=uW (ovr ws k (l++[v])):=fun v=>by rw [o_mn,←hl,o_ni (by omega)]
 have hki:((k:Int)+i).toNat=k+i:=by omega
 obtain ⟨x,hxd⟩:∃x,x=u.getD i 0:=⟨_,rfl⟩
 rw [←hxd] at hget hx
 by_cases hin:i<d.length
 ·have hin':(i:Int)<d.length:=by omega
  have hy:d[i]<18446744073709551616:=hd _ (List.getElem_mem _)
  have hyd:d[i]=d.getD i 0:=o_kf hin
  have e2:IntKind.i64.wrap ((i:Int)+1)=(i:Int)+1:=w64 (by omega) (by omega)
  refine G1 (fs hin hin') ?_;try with_reducible exact tt
  refine AW.cond rfl (fun h=>?_) (fun h=>?_)
  ·clear h
   refine G1 (fs hin hin') ?_;try with_reducible exact tt
   generalize d[i]=y at hy hyd ⊢
   have hmul:=o_mf y g hy hg
   obtain ⟨hi',hhi⟩:∃q,q=y*g/18446744073709551616:=⟨_,rfl⟩
   obtain ⟨lo,hlo⟩:∃q,q=y*g%18446744073709551616:=⟨_,rfl⟩
   rw [←hhi,←hlo] at hmul
   obtain ⟨hyg,hl0,hh0⟩:=o_oa hy hg hhi hlo
   clear hhi hlo
   obtain ⟨l2,k2,hl1,hll2,hk2⟩:∃l2 k2:Nat,lo+c+0=l2+18446744073709551616*k2∧l2<18446744073709551616∧k2≤1:=⟨(lo+c)%18446744073709551616,(lo+c)/18446744073709551616,by omega,by omega,by omega⟩
   obtain ⟨z,nb,hzb,hz,hnb⟩:∃z nb:Nat,x+18446744073709551616*nb=z+l2+b∧z<18446744073709551616∧nb≤1:=by
    by_cases h:l2+b≤x
    ·exact ⟨x-l2-b,0,by omega,by omega,by omega⟩
    ·exact ⟨x+18446744073709551616-l2-b,1,by omega,by omega,by omega⟩
   have w1:IntKind.u64.wrap ((hi':Int)+k2)=((hi'+k2:Nat):Int):=wu64 (by omega) (by omega)
   have hround:=o_nr hv hyg (by omega:lo+c=l2+18446744073709551616*k2) hzb
   have ht:g*wval (d.take (i+1))=g*(wval (d.take i)+18446744073709551616^i*y):=by rw [o_jv,←hyd]
   have hut:wval (u.take (i+1))=wval (u.take i)+18446744073709551616^i*x:=by rw [o_jv,←hxd]
   have hsn:wval (l++[z])=wval l+18446744073709551616^i*z:=by rw [o_np,hl]
   rw [←hsn,←ht,←hut,←Nat.pow_succ] at hround
   have hhk:hi'+k2<18446744073709551616:=by omega
   refine CallS.pu (hmul) (R1 (fs hol (fs hget hki)) ?_);try with_reducible exact tt
   generalize hi'+k2=hk at *
   refine CallS.pu (o_kl lo c 0 l2 k2 hl0 hc (by omega) hll2 hl1) (R1 (fs w1 (fs hol (fs hget hki))) ?_);try with_reducible exact tt
   refine CallS.pu (o_km x l2 b z nb hx hll2 hb hz (by omega)) (R1 (fs hol (fs hki (fs hset e2))) ?_);try with_reducible exact tt
   refine ⟨i+1,hk,nb,l++[z],⟨hin,hhk,hnb,by simp [hl],o_no hsl hz,hround⟩,by omega,by simp,?_⟩
   exact ⟨Subs.refl _,o_mo _ _⟩
  ·simp [hin,hin'] at h
 ·have h2:i=d.length:=by omega
  subst h2
  rw [List.take_length] at hv
  obtain ⟨z,nb,hzb,hz,hnb⟩:∃z nb:Nat,x+18446744073709551616*nb=z+c+b∧z<18446744073709551616∧nb≤1:=by
   by_cases h:c+b≤x
   ·exact ⟨x-c-b,0,by omega,by omega,by omega⟩
   ·exact ⟨x+18446744073709551616-c-b,1,by omega,by omega,by omega⟩
  refine G0 ?_;try with_reducible exact tt
  refine AW.cond rfl (fun h=>?_) (fun h=>?_)
  ·simp at h
  refine AW.exit ?_
  (try (simp -implicitDefEqProofs;try simp (disch:=omega) only [w64,wu64]))
  refine G1 (fs hol (fs hget hki)) ?_;try with_reducible exact tt
  refine CallS.pu (o_km x c b z nb hx hc hb hz (by omega)) (R1 (fs hol (fs hki hset)) ?_);try with_reducible exact tt
  have hux:wval u=wval (u.take d.length)+18446744073709551616^d.length*x:=by
   rw [hxd,←o_jv,List.take_of_length_le (by omega)]
  obtain ⟨hnb',hR⟩:=o_nt (n:=d.length) (by rw [o_np,hl]) hv hux hzb hnb (o_no hsl hz) (by simp [hl]) hus hul
  rw [←hR]
  refine ⟨Sub1.int ?_,Subs.refl _⟩
  rw [hnb']
  split<;>rfl
end
section
open Go.RowKit
set_option maxHeartbeats 4000000 in
theorem o_oc (ws d:List Nat) (k:Nat) (hs:small ws) (hd:small d) (hd1:1≤d.length) (hk:k+d.length+1≤ws.length) (hn:ws.length≤1000000) (htop:d.getD (d.length-1) 0≠0) (hU:wval ((ws.drop k).take (d.length+1))<wval d*18446744073709551616) :
  Eqn Tryz.prog o_gg [.row 0 k (d.length+1),.d (W d)] [⟨199,uW ws⟩] (.d (.int .u64 (wval ((ws.drop k).take (d.length+1))/wval d:Nat))) [⟨199,uW (ovr ws k (wordsN (d.length+1) (wval ((ws.drop k).take (d.length+1))%wval d)))⟩]:=by
 refine Eqn.obj1 o_gi Plain.ok (o_o9 _) ?_
 have htk:=fun g hg=>o_ob ws d k g hs hd hk hn hg
 obtain ⟨u,hu⟩:∃u,u=(ws.drop k).take (d.length+1):=⟨_,rfl⟩
 have hul:u.length=d.length+1:=by rw [hu];exact o_nm (by omega)
 have hus:small u:=by rw [hu];exact (o_nn hs k).take _
 have hug:∀i,i<d.length+1→u.getD i 0=ws.getD (k+i) 0:=fun i hi=>by rw [hu];exact o_nl hi
 simp only [takeR,←hu] at htk hU ⊢
 obtain ⟨n,hdn⟩:∃n,d.length=n+1:=⟨d.length-1,by omega⟩
 have hgn:=o_mm (ws:=ws) (j:=k+d.length) (by omega)
 have hgm:=o_mm (ws:=ws) (j:=k+n) (by omega)
 rw [←hug _ (by omega)] at hgn hgm
 have hwl:=o_ml ws
 have hx1:=hus.getD d.length
 have hx0:=hus.getD n
 have hdt:d[n]?=some (d.getD n 0):=by rw [List.getD_eq_getElem?_getD,List.getElem?_eq_getElem (by omega)];rfl
 have hdt2:d[n]'(by omega)=d.getD n 0:=o_kf (by omega)
 have hdg:=hd.getD n
 rw [hdn,Nat.add_sub_cancel] at htop
 have hUx:wval u/18446744073709551616^n=u.getD d.length 0*18446744073709551616+u.getD n 0:=o_nz hus (by omega) hdn
 have hDt:d.getD n 0*18446744073709551616^n≤wval d:=o_ny (by omega)
 generalize u.getD d.length 0=x1 at *
 generalize u.getD n 0=x0 at *
 generalize hdd:d.getD n 0=dt at *
 have hD0:0<wval d:=Nat.lt_of_lt_of_le (Nat.mul_pos (by omega) (Nat.pow_pos (by decide))) hDt
 have ed:IntKind.i64.wrap ((d.length:Int)-1)=(n:Int):=by rw [w64 (by omega) (by omega)];omega
 have hkd:((k:Int)+d.length).toNat=k+d.length:=by omega
 have hnd:(n:Int)<d.length:=by omega
 have hnd':n<d.length:=by omega
 obtain ⟨g,hg,hgD,hgc⟩:∃g:Nat,g≤18446744073709551615∧wval u/wval d≤g∧(if x1<dt then g=(x1*18446744073709551616+x0)/dt else g=18446744073709551615):=by
  by_cases h:x1<dt
  ·refine ⟨(x1*18446744073709551616+x0)/dt,?_,o_lu (B:=18446744073709551616) (by decide) (Nat.pow_pos (by decide)) hUx hDt (by omega),by rw [if_pos h]⟩
   have:(x1*18446744073709551616+x0)/dt<18446744073709551616:=by
    rw [Nat.div_lt_iff_lt_mul (by omega)]
    have:(x1+1)*18446744073709551616≤dt*18446744073709551616:=Nat.mul_le_mul_right _ h
    omega
   omega
  ·refine ⟨18446744073709551615,by omega,?_,by rw [if_neg h]⟩
   have:wval u/wval d<18446744073709551616:=by rw [Nat.div_lt_iff_lt_mul hD0,Nat.mul_comm];exact hU
   omega
 refine cc (c':=?z35) ?_ ?_
 case refine_1=>cbv<;>exact rfl
 try simp only [W] at htk ⊢
 repeat (first | refine AW.seq ?_ | refine AW.block ?_)
 refine AW.reg mix ?_
 (simp -implicitDefEqProofs;try simp (disch:=omega) only [w64,wu64])
 try refine need.of (by first | omega | kernel_rfl) ?_
 repeat (first | refine AW.seq ?_ | refine AW.block ?_)
 refine AW.reg mix ?_
 (simp -implicitDefEqProofs;try simp (disch:=omega) only [w64,wu64])
 try refine need.of (by first | omega | kernel_rfl) ?_
 repeat (first | refine AW.seq ?_ | refine AW.block ?_)
 refine AW.reg mix ?_
 (simp -implicitDefEqProofs;try simp (disch:=omega) only [w64,wu64])
 try refine need.of (by first | omega | kernel_rfl) ?_
 refine AW.cut 1 [(6,.d (.int .u64 g))] [(0,⟨199,uW ws⟩)] (by simp) (by simp) ?_ ?_
 ·by_cases hlt:x1<dt
  ·rw [if_pos hlt] at hgc
   have hlt':(x1:Int)<dt:=by omega
   refine G1 (fs hwl (fs hgn (fs hgm (fs ed (fs hkd (fs hnd (fs hnd' (fs hdt (fs hdt2 (fs hlt hlt')))))))))) ?_;try with_reducible exact tt
   refine AW.cond rfl (fun h=>?_) (fun h=>?_)
   ·have hdiv:=o_mi x1 x0 dt hlt hx0 hdg
    rw [←hgc] at hdiv
    refine G1 (fs hwl (fs hgn (fs hgm (fs ed (fs hkd (fs hnd (fs hnd' hdt))))))) ?_;try with_reducible exact tt
    simp only [hdt2]
    refine CallS.pu (hdiv) (R0 ?_);try with_reducible exact tt
    exact o_mo _ _
   ·simp [hlt,hlt'] at h
  ·rw [if_neg hlt] at hgc
   have hlt':¬(x1:Int)<dt:=by omega
   refine G1 (fs hwl (fs hgn (fs hgm (fs ed (fs hkd (fs hnd (fs hnd' (fs hdt (fs hdt2 (fs hlt hlt')))))))))) ?_;try with_reducible exact tt
   refine AW.cond rfl (fun h=>?_) (fun h=>?_)
   ·simp [hlt,hlt'] at h
   ·refine AW.skip ?_
    subst hgc
    simp [o_mo]
 clear hgc
 have hDn:wval d<18446744073709551616^d.length:=o_jc hd
 have hgM:g*wval d≤wval u+18446744073709551616^(d.length+1):=by
  rw [Nat.pow_succ]
  have:g*wval d≤18446744073709551616*18446744073709551616^d.length:=Nat.mul_le_mul (by omega) (by omega)
  rw [Nat.mul_comm _ 18446744073709551616]
  omega
 obtain ⟨t0,l0,ht0,hl0,hsl0,hv0,hE0⟩:∃(t0:Nat) (l0:List Nat),t0≤1∧l0.length=d.length+1∧small l0∧wval l0+g*wval d=wval u+18446744073709551616^(d.length+1)*t0 ∧
   Eqn Tryz.prog o_gs [.row 0 k (d.length+1),.d (.sl d.length (d.map fun x:Nat=>D.int .u64 x)),.d (.int .u64 g)] [⟨199,uW ws⟩] (.d (.int .i64 t0)) [⟨199,uW (ovr ws k l0)⟩]:=by
  refine ⟨if wval u<g*wval d then 1 else 0,_,by split<;>omega,o_n9 _ _,o_na _ _,o_nu hus hul hgM,?_⟩
  have:=htk g (by omega)
  rw [show ((if wval u<g*wval d then 1 else 0:Nat):Int)=if wval u<g*wval d then 1 else 0 by split<;>rfl]
  exact this
 clear htk hgM
 simp
 refine G0 ?_;try with_reducible exact tt
 refine CallS.o1 0 (hE0) (hO:=o_o9 _) (hO':=(o_o9 _)) (R0 ?_);try with_reducible exact tt
 refine AW.loopT (α:=Nat×Nat×List Nat) 1 (fun s=>[(7,.d (.int .i64 (s.1:Nat))),(6,.d (.int .u64 (s.2.1:Nat)))]) (fun s=>[(0,⟨199,uW (ovr ws k s.2.2)⟩)]) (fun s=>s.1≤1∧s.2.1≤18446744073709551615∧wval u/wval d≤s.2.1∧s.2.2.length=d.length+1∧small s.2.2∧wval s.2.2+s.2.1*wval d=wval u+18446744073709551616^(d.length+1)*s.1) (fun s=>s.2.1) (t0,g,l0) ?_ ?_ ⟨ht0,hg,hgD,hl0,hsl0,hv0⟩ ?_ ?_ ?_
 ·simp
 ·simp
 ·simp
 ·simp [o_mo]
 clear hE0 hl0 hsl0 hv0 ht0 hg hgD
 rintro ⟨t,g,l⟩ ⟨ht,hg,hgD,hl,hsl,hv⟩
 simp only at ht hg hgD hl hsl hv
 simp
 rcases (by omega:t=0∨t=1) with rfl | rfl
 ·rw [Nat.mul_zero,Nat.add_zero] at hv
  obtain ⟨hq,hr⟩:=o_lw hD0 hgD hv
  have hlw:=o_nd hsl hl hr.symm
  refine G0 ?_;try with_reducible exact tt
  refine AW.cond rfl (fun h=>?_) (fun h=>?_)
  ·simp at h
  refine AW.exit ?_
  (try (simp -implicitDefEqProofs;try simp (disch:=omega) only [w64,wu64]))
  refine G0 ?_;try with_reducible exact tt
  rw [←hlw]
  refine ⟨Sub1.int ?_,Subs.refl _⟩
  rw [←hq];rfl
 ·rw [Nat.mul_one] at hv
  obtain ⟨hg0,hn1,hn2⟩:=o_lv (P:=18446744073709551616^d.length) (by rw [Nat.pow_succ,Nat.mul_comm]) hDn hD0 hg (by rw [←hl];exact o_jc hsl) hv
  have ew:IntKind.u64.wrap ((g:Int)-1)=((g-1:Nat):Int):=by rw [wu64 (by omega) (by omega)];omega
  refine G1 ew ?_;try with_reducible exact tt
  refine AW.cond rfl (fun h=>?_) (fun h=>?_)
  rotate_left
  ·simp at h
  refine G1 ew ?_;try with_reducible exact tt
  have hwlen:(ovr ws k l).length=ws.length:=o_ne (by omega)
  have hlg:∀j,j<d.length+1→(ovr ws k l).getD (k+j) 0=l.getD j 0:=fun j hj=>o_nv (by omega) (by omega)
  have hws1:small (ovr ws k l):=o_nf hs hsl
  have hoo:∀r,r.length=d.length+1→ovr (ovr ws k l) k r=ovr ws k r:=fun r hr=>o_nj (by omega) (by omega)
  refine AW.loopT (α:=Nat×Nat×List Nat) 1 (fun s=>[(53,.d (.int .i64 (s.1:Nat))),(8,.d (.int .u64 (s.2.1:Nat)))]) (fun s=>[(0,⟨199,uW (ovr (ovr ws k l) k s.2.2)⟩)]) (fun s=>s.1≤d.length∧s.2.1≤1∧s.2.2.length=s.1∧small s.2.2∧wval s.2.2+18446744073709551616^s.1*s.2.1=wval (l.take s.1)+wval (d.take s.1)) (fun s=>d.length-s.1) (0,0,[]) ?_ ?_ ⟨Nat.zero_le _,by simp,rfl,o_nq,by simp [wval]⟩ ?_ ?_ ?_
  ·simp
  ·simp
  ·simp
  ·simp [o_mo,o_ng]
  rintro ⟨j,c,r⟩ ⟨hj,hc,hr,hsr,hv2⟩
  simp only at hj hc hr hsr hv2
  simp
  have hol:(uW (ovr (ovr ws k l) k r)).length=ws.length:=by rw [o_ml,o_ne (by omega),hwlen]
  have hget:=o_mm (ws:=ovr (ovr ws k l) k r) (j:=k+j) (by rw [←o_ml,hol];omega)
  have hnx:=o_nh (ws:=ovr ws k l) (k:=k) (l:=r) (by omega)
  rw [hr] at hnx
  rw [hnx,hlg j (by omega)] at hget
  have hx:=hsl.getD j
  have hset:∀v:Nat,(uW (ovr (ovr ws k l) k r)).set (k+j) (.d (.int .u64 v))=uW (ovr (ovr ws k l) k (r++[v])):=fun v=>by rw [o_mn,←hr,o_ni (by omega)]
  have hkj:((k:Int)+j).toNat=k+j:=by omega
  obtain ⟨x,hxd⟩:∃x,x=l.getD j 0:=⟨_,rfl⟩
  rw [←hxd] at hget hx
  by_cases hjn:j<d.length
  ·have hjn':(j:Int)<d.length:=by omega
   have hy:d[j]<18446744073709551616:=hd _ (List.getElem_mem _)
   have hyd:d[j]=d.getD j 0:=o_kf hjn
   have e2:IntKind.i64.wrap ((j:Int)+1)=((j+1:Nat):Int):=by rw [w64 (by omega) (by omega)];omega
   refine G1 (fs hjn hjn') ?_;try with_reducible exact tt
   refine AW.cond rfl (fun h=>?_) (fun h=>?_)
   rotate_left
   ·simp [hjn,hjn'] at h
   clear h
   refine G1 (fs hjn (fs hjn' (fs hol (fs hget hkj)))) ?_;try with_reducible exact tt
   generalize d[j]=y at hy hyd ⊢
   obtain ⟨z,nc,hzc,hz,hnc⟩:∃z nc:Nat,x+y+c=z+18446744073709551616*nc∧z<18446744073709551616∧nc≤1:=⟨(x+y+c)%18446744073709551616,(x+y+c)/18446744073709551616,by omega,by omega,by omega⟩
   have hround:=o_nw hv2 hzc
   rw [show wval r+18446744073709551616^j*z=wval (r++[z]) by rw [o_np,hr],show wval (l.take j)+18446744073709551616^j*x=wval (l.take (j+1)) by rw [o_jv,←hxd],show wval (d.take j)+18446744073709551616^j*y=wval (d.take (j+1)) by rw [o_jv,←hyd],←Nat.pow_succ] at hround
   refine CallS.pu (o_kl x y c z nc hx hy hc hz hzc) (R1 (fs hol (fs hkj (fs hset e2))) ?_);try with_reducible exact tt
   exact ⟨j+1,nc,r++[z],⟨hjn,hnc,by simp [hr],o_no hsr hz,hround⟩,by omega,by simp,Subs.refl _,o_mo _ _⟩
  ·have h2:j=d.length:=by omega
   subst h2
   rw [List.take_length] at hv2
   have hlx:wval l=wval (l.take d.length)+18446744073709551616^d.length*x:=by rw [hxd,←o_jv,List.take_of_length_le (by omega)]
   obtain ⟨v,nv,hvc,hvl,hnv⟩:∃v nv:Nat,x+c=v+18446744073709551616*nv∧v<18446744073709551616∧nv≤1:=⟨(x+c)%18446744073709551616,(x+c)/18446744073709551616,by omega,by omega,by omega⟩
   have wv:IntKind.u64.wrap ((x:Int)+c)=(v:Int):=by rw [IntKind.wrap_u64];omega
   have hrv:(r++[v]).length=d.length+1:=by simp [hr]
   have hsum:=o_nx (p:=18446744073709551616^d.length) (wr:=wval r) (c:=c) (x:=x) hv2 hlx hvc
   rw [show wval r+18446744073709551616^d.length*v=wval (r++[v]) by rw [o_np,hr],←Nat.pow_succ] at hsum
   have hrlt:=o_jc (o_no hsr hvl)
   rw [hrv] at hrlt
   replace hset:=hset v
   rw [hoo _ hrv] at hset
   have hget2:=o_mm (ws:=ovr ws k (r++[v])) (j:=k+d.length) (by rw [o_ne (by omega)];omega)
   rw [o_nv (by omega) (by omega),show (r++[v]).getD d.length 0=v by rw [←hr];simp] at hget2
   refine G0 ?_;try with_reducible exact tt
   refine AW.cond rfl (fun h=>?_) (fun h=>?_)
   ·simp at h
   refine AW.exit ?_
   (try (simp -implicitDefEqProofs;try simp (disch:=omega) only [w64,wu64]))
   have hol2:(uW (ovr ws k (r++[v]))).length=ws.length:=by rw [o_ml,o_ne (by omega)]
   have hsr2:=o_no hsr hvl
   generalize hr2:r++[v]=r2 at *
   have hrw:wval r<18446744073709551616^d.length:=by rw [←hr];exact o_jc hsr
   have hrw2:wval r2=wval r+18446744073709551616^d.length*v:=by rw [←hr2,o_np,hr]
   by_cases hv0:v=0
   ·subst hv0
    have hnv1:nv=1:=by
     rcases (by omega:nv=0∨nv=1) with rfl | h
     ·exfalso
      rw [Nat.mul_zero,Nat.add_zero] at hsum
      rw [Nat.mul_zero,Nat.add_zero] at hrw2
      have:=(hn2 (by omega)).2
      omega
     ·exact h
    subst hnv1
    rw [Nat.mul_one] at hsum
    obtain ⟨k1,k2,k3,-⟩:=hn1 (by omega)
    simp at hset hget2 wv
    refine G1 (fs hol (fs hget (fs hkj (fs wv (fs hset (fs hget2 hol2)))))) ?_;try with_reducible exact tt
    refine AW.cond rfl (fun h=>?_) (fun h=>?_)
    ·simp at h
    repeat (first | refine AW.seq ?_ | refine AW.block ?_ | (refine AW.reg mix ?_;simp -implicitDefEqProofs;try simp (disch:=omega) only [w64,wu64]) | (refine need.of (by first | omega | kernel_rfl) ?_) | (refine AW.fin ?_;try simp -implicitDefEqProofs))
    (try (simp -implicitDefEqProofs;try simp (disch:=omega) only [w64,wu64]))
    repeat (first | refine AW.seq ?_ | refine AW.block ?_ | (refine AW.reg mix ?_;simp -implicitDefEqProofs;try simp (disch:=omega) only [w64,wu64]) | (refine need.of (by first | omega | kernel_rfl) ?_) | (refine AW.fin ?_;try simp -implicitDefEqProofs))
    refine ⟨0,g-1,r2,⟨by omega,by omega,by omega,hrv,hsr2,?_⟩,by omega,by simp,?_⟩
    ·rw [Nat.mul_zero,Nat.add_zero,←k1];omega
    ·exact ⟨Subs.refl _,o_mo _ _⟩
   ·have hnv0:nv=0:=by omega
    subst hnv0
    rw [Nat.mul_zero,Nat.add_zero] at hsum
    obtain ⟨k1,k2⟩:=hn2 (by omega)
    refine G1 (fs hol (fs hget (fs hkj (fs wv (fs hset (fs hget2 (fs hol2 hv0))))))) ?_;try with_reducible exact tt
    refine AW.cond rfl (fun h=>?_) (fun h=>?_)
    rotate_left
    ·simp [hv0] at h
    repeat (first | refine AW.seq ?_ | refine AW.block ?_ | (refine AW.reg mix ?_;simp -implicitDefEqProofs;try simp (disch:=omega) only [w64,wu64]) | (refine need.of (by first | omega | kernel_rfl) ?_) | (refine AW.fin ?_;try simp -implicitDefEqProofs))
    (try (simp -implicitDefEqProofs;try simp (disch:=omega) only [w64,wu64]))
    repeat (first | refine AW.seq ?_ | refine AW.block ?_ | (refine AW.reg mix ?_;simp -implicitDefEqProofs;try simp (disch:=omega) only [w64,wu64]) | (refine need.of (by first | omega | kernel_rfl) ?_) | (refine AW.fin ?_;try simp -implicitDefEqProofs))
    refine ⟨1,g-1,r2,⟨by omega,by omega,?_,hrv,hsr2,?_⟩,by omega,by simp,?_⟩
    ·exact Nat.div_le_of_le_mul (by rw [Nat.mul_comm];omega)
    ·omega
    ·exact ⟨Subs.refl _,o_mo _ _⟩
end
section
open Go.RowKit
set_option maxHeartbeats 1000000 in
theorem o_od (A:List Nat) (k:Nat) (hk:k<64) (hs:small A) (hn:A.length≤1000000):Eqn Tryz.prog o_gd [.d (W A),.d (.int .i64 k)] [] (.own 0 1 (A.length+1)) [⟨199,uW (movedL k 0 A)⟩]:=by
 refine Eqn.gen [0] o_gf (by simp) (by simp) (by rfl) (by decide) (by simp) (by simp [o_mo]) ?_
 refine cc (c':=?z36) ?_ ?_
 case refine_1=>cbv<;>exact rfl
 try simp only [W]
 refine G0 ?_;try with_reducible exact tt
 rw [show List.replicate (A.length+1) (V.d (.int .u64 0))=cellM k A 0 by rw [cellM,o_l4];simp [U]]
 have hlow:∀i,V.lowl 1 (cellM k A i)=true:=fun i=>o_l8 1 _
 refine AW.loopT (α:=Nat) 1 (fun i=>[(14,.d (.int .i64 (i:Int)))]) (fun i=>[(0,⟨199,cellM k A i⟩)]) (fun i=>i≤A.length) (fun i=>A.length-i) 0 ?_ ?_ (Nat.zero_le _) ?_ ?_ ?_
 ·simp
 ·simp
 ·simp
 ·simp [hlow]
 rintro i hi
 simp
 by_cases h:i=A.length
 ·subst h
  refine G0 ?_;try with_reducible exact tt
  refine AW.cond rfl (fun h=>?_) (fun h=>?_)
  ·simp at h
  refine AW.exit ?_
  (try (simp -implicitDefEqProofs;try simp (disch:=omega) only [w64,wu64]))
  rw [cellM,o_l5]
  repeat (first | refine AW.seq ?_ | refine AW.block ?_ | (refine AW.reg mix ?_;simp -implicitDefEqProofs [uW];try simp (disch:=omega) only [w64,wu64]) | (refine need.of (by first | omega | kernel_rfl) ?_) | (refine AW.fin ?_;try simp -implicitDefEqProofs [uW]))
  rw [show U (movedL k 0 A)=uW (movedL k 0 A) from rfl,o_o8]
  exact Subs.refl _
 ·have hi':i<A.length:=by omega
  have hp:(i:Int)<A.length:=by omega
  obtain ⟨c,y,u,hl,hq,hor,hw,hd,hset⟩:∃c z u:Nat,(cellM k A i).length=A.length+1∧(cellM k A i)[i]?=some (.d (.int .u64 c))∧bits BinOp.or IntKind.u64 (c:Int) (IntKind.u64.wrap ((A[i]:Int)*2^k))=(z:Int) ∧
    True∧(A[i]:Int)/2^(64-k)=(u:Int)∧((cellM k A i).set i (.d (.int .u64 z))).set (i+1) (.d (.int .u64 u))=cellM k A (i+1):=by
   have hl:=o_l3 k A i hi
   have hc:=o_jq (k:=k) (l:=A.take i) (c:=0) (hs.take i) (Nat.two_pow_pos k)
   have hset:=o_l7 k A i hi'
   rw [←o_kf hi'] at hset
   refine ⟨movedC k 0 (A.take i),A[i]*2^k%18446744073709551616+movedC k 0 (A.take i),A[i]*2^k/18446744073709551616,by simp [cellM,U,hl],?_,?_,trivial,?_,?_⟩
   ·have:=o_l6 k A i hi'
    rw [List.getD,List.getElem?_eq_getElem (by omega)] at this
    rw [cellM,U,List.getElem?_map,List.getElem?_eq_getElem (by omega)]
    simp at this
    simp [this]
   ·rw [show IntKind.u64.wrap ((A[i]:Int)*2^k)=((A[i]*2^k%18446744073709551616:Nat):Int) by rw [IntKind.wrap_u64,Int.natCast_emod,Int.natCast_mul,Int.natCast_pow];rfl]
    rw [bits_or_u64_nat _ _ (Nat.lt_of_lt_of_le hc (by rw [show (18446744073709551616:Nat)=2^64 by rfl];exact Nat.pow_le_pow_right (by decide) (by omega))) (Nat.mod_lt _ (by decide)),o_jr hk hc]
   ·rw [o_js (by omega),Int.natCast_ediv,Int.natCast_pow];rfl
   ·rw [cellM,cellM,←hset,U,U,List.map_set,List.map_set]
  have hn:((64:Int)-k).toNat=64-k:=by omega
  have e1:IntKind.i64.wrap ((i:Int)+1)=(i:Int)+1:=w64 (by omega) (by omega)
  have e2:IntKind.i64.wrap ((64:Int)-k)=(64:Int)-k:=w64 (by omega) (by omega)
  generalize cellM k A i=cm at hl hq hset
  refine G1 (fs hi' hp) ?_;try with_reducible exact tt
  refine AW.cond rfl (fun h=>?_) (fun h=>?_)
  ·clear h
   refine G1 (fs hi' (fs hp (fs hl (fs hq (fs hor (fs e1 (fs e2 (fs hn (fs hd hset))))))))) ?_;try with_reducible exact tt
   exact ⟨i+1,by omega,by omega,by simp [wk],by simp [wkH,hlow]⟩
  ·simp at h

theorem o_oe (n s:Nat) (ds:List D) (ws:List Nat):V.frzs n s ds (uW ws)=uW ws:=by
 rw [o_58,uW,U,List.map_map];rfl
theorem uW_d (ws:List Nat):uW ws=(ws.map fun x:Nat=>D.int .u64 x).map V.d:=by rw [List.map_map];rfl

set_option maxHeartbeats 4000000 in
theorem o_of (a b:Nat) (hb:18446744073709551616≤b) (hab:b≤a) (ha:size a≤900000):Eqn Tryz.prog o_fp [.d (.agg [natW a]),.d (.agg [natW b])] [] (.tup [.d (.agg [natW (a/b)]),.d (.agg [natW (a%b)]),.d (.int .i64 0)]) []:=by
 refine Eqn.pure o_fr Plain.ok ?_
 have hba:=o_l1 hab
 unfold size at ha hba
 have hsA:=o_k8 a
 have hsB:=o_k8 b
 have htB:=o_k9 b
 have hvA:=o_k7 a
 have hvB:=o_k7 b
 have hB2:2≤(words b).length:=by
  rcases Nat.lt_or_ge (words b).length 2 with h | h
  ·exfalso
   have:=o_jc hsB
   rw [hvB] at this
   have h2:18446744073709551616^(words b).length≤18446744073709551616^1:=Nat.pow_le_pow_right (by decide) (by omega)
   omega
  ·exact h
 refine cc (c':=?z37) ?_ ?_
 case refine_1=>cbv<;>exact rfl
 try simp only [natW,W]
 generalize words a=A at *
 generalize words b=Bw at *
 obtain ⟨n,hn⟩:∃n,Bw.length=n+1:=⟨Bw.length-1,by omega⟩
 have htop:=htB n hn
 have htl:=hsB.getD n
 have hget:Bw[n]'(by omega)=Bw.getD n 0:=o_kf (by omega)
 have hlead:=o_m3 (Bw.getD n 0) htl
 have e1:IntKind.i64.wrap ((Bw.length:Int)-1)=(n:Int):=by rw [w64 (by omega) (by omega)];omega
 have hnB:n<Bw.length:=by omega
 have hnB':(n:Int)<Bw.length:=by omega
 generalize Bw.getD n 0=top at *
 obtain ⟨s,hs⟩:∃s,s=64-bitsN top:=⟨_,rfl⟩
 rw [←hs] at hlead
 have hs64:s<64:=by have:=(o_lm (n:=top) (by omega)).2;omega
 have hmB:=o_l9 Bw s hs64 hsB (by omega)
 have hmA:=o_od A s hs64 hsA (by omega)
 simp only [W,o_ji] at hmB
 refine G1 (fs e1 (fs hnB (fs hnB' hget))) ?_;try with_reducible exact tt
 refine CallS.pu (hlead) (R1 (fs e1 (fs hnB (fs hnB' hget))) ?_);try with_reducible exact tt
 refine CallS.pu (hmB) (R1 (fs e1 (fs hnB (fs hnB' hget))) ?_);try with_reducible exact tt
 have hlm:(A.length:Int)+1-Bw.length=((A.length-n:Nat):Int):=by omega
 have hlm2:IntKind.i64.wrap ((A.length:Int)+1-Bw.length)=((A.length-n:Nat):Int):=by rw [w64 (by omega) (by omega),hlm]
 have hlm3:IntKind.i64.wrap (((A.length-n:Nat):Int)-1)=((A.length-n:Nat):Int)-1:=w64 (by omega) (by omega)
 refine CallS.nX (hmA) (hO':=(o_o9 _)) (R1 (fs e1 (fs hnB (fs hnB' (fs hget (fs hlm2 hlm3))))) ?_);try with_reducible exact tt
 have hnA:n+1≤A.length:=by omega
 have hbn:18446744073709551616^n≤wval Bw:=by
  have h1:=o_ny (d:=Bw) (n:=n) hnB
  rw [o_kf hnB] at hget
  rw [hget] at h1
  have:1*18446744073709551616^n≤top*18446744073709551616^n:=Nat.mul_le_mul_right _ (by omega)
  omega
 have hD2:wval Bw*2^s<18446744073709551616^Bw.length:=by
  have h1:=o_jv Bw n
  rw [List.take_of_length_le (by omega)] at h1
  rw [o_kf hnB] at hget
  rw [hget] at h1
  have h2:=o_k4 hsB n
  have h3:top<2^bitsN top:=o_lj top
  have h4:wval Bw<2^bitsN top*18446744073709551616^n:=by
   have:(top+1)*18446744073709551616^n≤2^bitsN top*18446744073709551616^n:=Nat.mul_le_mul_right _ h3
   rw [Nat.add_mul,Nat.one_mul,Nat.mul_comm top] at this
   omega
  have h5:wval Bw*2^s<2^bitsN top*18446744073709551616^n*2^s:=Nat.mul_lt_mul_of_pos_right h4 (Nat.two_pow_pos s)
  have h6:2^bitsN top*18446744073709551616^n*2^s=18446744073709551616^Bw.length:=by
   have hb64:bitsN top≤64:=o_lk htl
   rw [Nat.mul_right_comm,←Nat.pow_add,show bitsN top+s=64 by omega,hn,Nat.pow_succ,Nat.mul_comm]
   rfl
  omega
 have hDv:=o_o7 hD2
 have hsd:small ((movedL s 0 Bw).take Bw.length):=(o_jk hs64 hsB (Nat.two_pow_pos s)).take _
 have hdl:((movedL s 0 Bw).take Bw.length).length=n+1:=by rw [List.length_take,o_ji];omega
 have hU0:=o_jj s A 0
 have hsU:small (movedL s 0 A):=o_jk hs64 hsA (Nat.two_pow_pos s)
 have hlU:=o_ji s A 0
 rw [Nat.add_zero] at hU0
 have hp2:=Nat.two_pow_pos s
 have hD0:18446744073709551616^n*2^s≤wval Bw*2^s:=Nat.mul_le_mul_right _ hbn
 have hDpos:0<wval Bw*2^s:=Nat.lt_of_lt_of_le (Nat.mul_pos (Nat.pow_pos (by decide)) hp2) hD0
 simp only [←List.map_take]
 generalize hdd:(movedL s 0 Bw).take Bw.length=d at *
 generalize hUU:movedL s 0 A=u0 at *
 have hdtop:d.getD (d.length-1) 0≠0:=by
  intro h0
  have h1:=o_jv d n
  have he:d.take (n+1)=d:=List.take_of_length_le (by omega)
  rw [he] at h1
  rw [hdl,Nat.add_sub_cancel] at h0
  rw [h0,Nat.mul_zero,Nat.add_zero] at h1
  have h2:=o_k4 hsd n
  have h3:18446744073709551616^n*1≤18446744073709551616^n*2^s:=Nat.mul_le_mul_left _ hp2
  omega
 generalize hm:A.length-n=m at *
 have hstart:wval ((u0.drop m).take (n+1))<wval d:=by
  have h1:=o_o1 (ws:=u0) m (n+1) (by omega)
  rw [List.take_of_length_le (by omega),hU0] at h1
  have h2:=o_jc hsA
  have h3:wval A*2^s<18446744073709551616^A.length*2^s:=Nat.mul_lt_mul_of_pos_right h2 hp2
  rw [hDv]
  refine Nat.lt_of_lt_of_le ?_ hD0
  have h4:18446744073709551616^A.length=18446744073709551616^m*18446744073709551616^n:=by rw [←Nat.pow_add];congr 1;omega
  rw [h4,Nat.mul_assoc] at h3
  have h5:18446744073709551616^m*wval ((u0.drop m).take (n+1))<18446744073709551616^m*(18446744073709551616^n*2^s):=by omega
  exact Nat.lt_of_mul_lt_mul_left h5
 have hdlt:wval d<18446744073709551616^(n+1):=by rw [←hdl];exact o_jc hsd
 have htkall:u0.take (m+(n+1))=u0:=List.take_of_length_le (by omega)
 have hdB:d.length=Bw.length:=by omega
 rw [show List.replicate m (V.d (.int .u64 0))=uW (List.replicate m 0++[]) by simp [uW,U]]
 refine AW.loopT (α:=Nat×List Nat×List Nat) 6 (fun s=>[(12,.d (.int .i64 ((s.1:Int)-1)))]) (fun s=>[(4,⟨199,uW s.2.1⟩),(5,⟨199,uW (List.replicate s.1 0++s.2.2)⟩)]) (fun s=>s.1≤m∧s.2.1.length=A.length+1∧small s.2.1∧s.2.2.length=m-s.1∧small s.2.2∧wval u0=wval (s.2.1.take (s.1+(n+1)))+wval d*(18446744073709551616^s.1*wval s.2.2)∧wval ((s.2.1.drop s.1).take (n+1))<wval d) (fun s=>s.1) (m,u0,[]) ?_ ?_ ⟨Nat.le_refl _,hlU,hsU,by simp,o_nq,by rw [htkall];simp [wval],hstart⟩ ?_ ?_ ?_
 ·simp
 ·simp
 ·simp
 ·simp [o_mo]
 clear hstart hsU hlU
 rintro ⟨kk,ws,q⟩ ⟨hkm,hwl,hws,hql,hsq,hv,hlt⟩
 simp only at hkm hwl hws hql hsq hv hlt
 simp
 cases kk with
 | zero =>
  refine G0 ?_;try with_reducible exact tt
  refine AW.cond rfl (fun h=>?_) (fun h=>?_)
  ·simp at h
  refine AW.exit ?_
  (try (simp -implicitDefEqProofs;try simp (disch:=omega) only [w64,wu64]))
  rw [Nat.zero_add,Nat.pow_zero,Nat.one_mul] at hv
  rw [List.drop_zero] at hlt
  rw [Nat.sub_zero] at hql
  have hdp:0<wval d:=by omega
  have hqv:wval q=wval u0/wval d:=by rw [hv,Nat.add_mul_div_left _ _ hdp,Nat.div_eq_of_lt hlt,Nat.zero_add]
  have hrv:wval (ws.take (n+1))=wval u0%wval d:=by rw [hv,Nat.add_mul_mod_self_left,Nat.mod_eq_of_lt hlt]
  obtain ⟨k1,k2⟩:=o_lt (n:=wval A) (y:=wval Bw) (s:=s)
  rw [hU0,hDv] at hqv hrv
  rw [k1] at hqv
  have ht1:=o_kg q hsq (by omega)
  have ht2:=o_kg (ws.take (n+1)) (hws.take _) (by rw [List.length_take];omega)
  have hl2:(ws.take (n+1)).length=n+1:=by rw [List.length_take];omega
  have hsz:size (wval (ws.take (n+1)))≤1000000:=Nat.le_trans (o_jt (o_k9 _) (m:=n+1) (by rw [o_k7];have:=o_jc (hws.take (n+1));rw [hl2] at this;exact this)) (by omega)
  have ht3:=o_md (wval (ws.take (n+1))) s hsz (by omega)
  rw [hrv,k2,←hrv] at ht3
  rw [hqv] at ht1
  simp only [natW,W,hql,hl2] at ht1 ht2 ht3
  refine AW.freeze 4 1 ⟨199,uW ws⟩ (ws.map fun x:Nat=>D.int .u64 x) (by rfl) (uW_d ws) ?_
  simp [o_oe]
  refine AW.freeze 5 1 ⟨199,uW q⟩ (q.map fun x:Nat=>D.int .u64 x) (by rfl) (uW_d q) ?_
  have hqt:q.take m=q:=List.take_of_length_le (by omega)
  have hwt:ws.take (A.length+1)=ws:=List.take_of_length_le (by omega)
  have hnAl:(Bw.length:Int)≤(A.length:Int)+1:=by omega
  simp [o_oe,←List.map_take,hqt,hwt]
  refine G1 hnAl ?_;try with_reducible exact tt
  refine CallS.pu (ht1) (R1 hnAl ?_);try with_reducible exact tt
  rw [←List.map_take,hn]
  refine CallS.pu (ht2) (R0 ?_);try with_reducible exact tt
  refine CallS.pu (ht3) (R0 ?_);try with_reducible exact tt
  rw [hvA,hvB]
  exact Sub1.refl _
 | succ k =>
  have hg0:(0:Int)≤k:=by omega
  refine G1 hg0 ?_;try with_reducible exact tt
  refine AW.cond rfl (fun h=>?_) (fun h=>?_)
  rotate_left
  ·simp at h
  have w1:IntKind.i64.wrap ((k:Int)+Bw.length)=(k:Int)+Bw.length:=w64 (by omega) (by omega)
  have w2:IntKind.i64.wrap ((k:Int)+Bw.length+1)=(k:Int)+Bw.length+1:=w64 (by omega) (by omega)
  have w3:((k:Int)+Bw.length+1).toNat-k=Bw.length+1:=by omega
  have w4:IntKind.i64.wrap ((k:Int)-1)=(k:Int)-1:=w64 (by omega) (by omega)
  have hc1:(k:Int)≤(k:Int)+Bw.length+1:=by omega
  have hc2:(k:Int)+Bw.length+1≤(A.length:Int)+1:=by omega
  have hseg:=o_o4 (ws:=ws) (k:=k) (m:=n+1) (by omega)
  have hxk:=hws.getD k
  have hS:wval ((ws.drop k).take (d.length+1))<wval d*18446744073709551616:=by
   rw [hdl,hseg];omega
  have hdig:=o_oc ws d k hws hsd (by omega) (by omega) (by omega) hdtop hS
  simp only [W] at hdig
  rw [hdB] at hdig hS
  obtain ⟨S,hSd⟩:∃S,S=wval ((ws.drop k).take (Bw.length+1)):=⟨_,rfl⟩
  have hvs:=o_o1 (ws:=ws) k (Bw.length+1) (by omega)
  rw [←hSd] at hdig hS hvs
  rw [show k+1+(n+1)=k+(Bw.length+1) by omega] at hv
  have hround:=o_o0 (Bk:=18446744073709551616^k) (S:=S) (Q:=wval q) (D:=wval d) (W1:=wval (ws.take k)) (U0:=wval u0) (BQ:=18446744073709551616^(k+1)*wval q) (by rw [hv,←hvs]) (by rw [Nat.pow_succ])
  have hdp:0<wval d:=by omega
  have hmodl:S%wval d<wval d:=Nat.mod_lt _ hdp
  have hlow:=o_o5 (ws:=ws) (k:=k) (n:=Bw.length) (x:=S%wval d) (by omega) (by rw [hn];exact Nat.lt_trans hmodl hdlt)
  have hwn:=o_n9 (Bw.length+1) (S%wval d)
  have hwlen:(ovr ws k (wordsN (Bw.length+1) (S%wval d))).length=ws.length:=o_ne (by omega)
  have hsm:=o_nf (k:=k) hws (o_na (Bw.length+1) (S%wval d))
  have hseg2:=o_o1 (ws:=ovr ws k (wordsN (Bw.length+1) (S%wval d))) k Bw.length (by omega)
  rw [o_o3 (by omega),hlow] at hseg2
  have hqd:S/wval d<18446744073709551616:=by rw [Nat.div_lt_iff_lt_mul hdp,Nat.mul_comm];exact hS
  have hset:(uW (List.replicate (k+1) 0++q)).set k (.d (.int .u64 (S/wval d:Nat)))=uW (List.replicate k 0++(S/wval d)::q):=by rw [o_mn,o_o6]
  have hol:(uW (List.replicate (k+1) 0++q)).length=m:=by rw [o_ml];simp;omega
  generalize ovr ws k (wordsN (Bw.length+1) (S%wval d))=ws' at *
  generalize S/wval d=q0 at *
  refine G1 (fs w1 (fs w2 (fs w3 (fs hg0 (fs hc1 hc2))))) ?_;try with_reducible exact tt
  refine CallS.o1 4 (hdig) (hO:=o_o9 _) (hO':=(o_o9 _)) (R1 (fs hol (fs hset w4)) ?_);try with_reducible exact tt
  refine ⟨k,ws',q0::q,⟨by omega,by omega,hsm,by simp [hql];omega,fun y hy=>?_,?_,?_⟩,by omega,by simp,⟨Subs.refl _,o_mo _ _⟩,Subs.refl _,o_mo _ _⟩
  ·rcases List.mem_cons.1 hy with rfl | hy
   ·exact hqd
   ·exact hsq y hy
  ·rw [←hn,hseg2];exact hround
  ·rw [←hn,hlow];exact hmodl
end
section
open Go.RowKit
theorem o_og (a b:Nat) (ha:size a≤900000) (h0:0<b) (hbs:size b≤900000):Eqn Tryz.prog o_dj [.d (.agg [natW a]),.d (.agg [natW b])] [] (.tup [.d (.agg [natW (a/b)]),.d (.agg [natW (a%b)]),.d (.int .i64 0)]) []:=by
 by_cases hsm:b<18446744073709551616∨a<b
 ·exact o_n4 a b (by omega) h0 hsm (by omega)
 ·have hb1:18446744073709551616≤b:=by omega
  have hab:b≤a:=by omega
  refine Eqn.pure o_dl (o_kx _ _ _) ?_
  have hlong:=o_of a b hb1 hab ha
  have hz:(b==0)=false:=by simp;omega
  have hsz:2≤(words b).length:=by
   rcases Nat.lt_or_ge (words b).length 2 with h | h
   ·exfalso
    have:=o_jc (o_k8 b)
    rw [o_k7] at this
    have h2:18446744073709551616^(words b).length≤18446744073709551616^1:=Nat.pow_le_pow_right (by decide) (by omega)
    omega
   ·exact h
  obtain ⟨bn,bl,e',hbn⟩:∃bn bl,natW b = .sl bn bl∧bn≠1:=⟨_,_,rfl,by omega⟩
  have hbn':¬(bn:Int)=1:=by omega
  have hcz:¬cmpZ a b<0:=by rw [o_le];omega
  refine cc (c':=?z38) ?_ ?_
  case refine_1=>cbv<;>exact rfl
  refine G0 ?_;try with_reducible exact tt
  refine CallS.pu (o_ki b) (R0 ?_);try with_reducible exact tt
  refine AW.cond rfl (fun h=>?_) (fun h=>?_)
  ·simp [hz] at h
  refine G0 ?_;try with_reducible exact tt
  refine CallS.pu (o_kk a b (by omega) (by omega)) (R1 hcz ?_);try with_reducible exact tt
  refine AW.cond rfl (fun h=>?_) (fun h=>?_)
  ·simp [hcz] at h
  rw [e'] at hlong
  refine G1 (fs e' (fs hbn hbn')) ?_;try with_reducible exact tt
  refine AW.cond rfl (fun h=>?_) (fun h=>?_)
  ·simp [hbn,hbn'] at h
  ·refine G0 ?_;try with_reducible exact tt
   refine CallS.pu (hlong) (R0 ?_);try with_reducible exact tt

theorem o_oh (a b:Nat) (ha:size a≤900000) (hb:size b≤900000):Eqn Tryz.prog o_dg [.d (.agg [natW a]),.d (.agg [natW b])] [] (.d (.agg [natW (Nat.gcd a b)])) []:=by
 refine Eqn.pure o_di (o_5d _) ?_
 refine cc (c':=?z39) ?_ ?_
 case refine_1=>cbv<;>exact rfl
 refine G0 ?_;try with_reducible exact tt
 refine AW.loopT (α:=Nat×Nat) 3 (fun _=>[]) (fun p=>[(0,⟨43,[.d (natW p.1)]⟩),(1,⟨43,[.d (natW p.2)]⟩)]) (fun p=>size p.1≤900000∧size p.2≤900000∧Nat.gcd p.1 p.2=Nat.gcd a b) (fun p=>p.2) (a,b) ?_ ?_ ⟨ha,hb,rfl⟩ ?_ ?_ ?_
 ·simp
 ·simp
 ·simp
 ·simp
 rintro ⟨x,y⟩ ⟨hx,hy,hg⟩
 simp only at hx hy hg
 simp
 refine G0 ?_;try with_reducible exact tt
 refine CallS.pu (o_ki y) (R0 ?_);try with_reducible exact tt
 by_cases h0:y=0
 ·subst h0
  rw [Nat.gcd_zero_right] at hg
  subst hg
  refine AW.cond rfl (fun h=>?_) (fun h=>?_)
  ·simp at h
  refine AW.exit ?_
  (try (simp -implicitDefEqProofs;try simp (disch:=omega) only [w64,wu64]))
  refine G0 ?_;try with_reducible exact tt
  refine CallS.pu (o_kh (words (Nat.gcd a b)) (o_k8 _) (by unfold size at hx;omega)) (R0 ?_);try with_reducible exact tt
  refine Sub1.of ?_
  rw [o_k7]
 ·have hy0:0<y:=by omega
  refine AW.cond rfl (fun h=>?_) (fun h=>?_)
  ·refine G0 ?_;try with_reducible exact tt
   refine CallS.pu (o_og x y hx hy0 hy) (R0 ?_);try with_reducible exact tt
   refine ⟨y,x%y,⟨hy,Nat.le_trans (o_l1 (Nat.mod_le x y)) hx,?_⟩,Nat.mod_lt _ hy0,Subs.refl _,?_⟩
   ·rw [←hg,Nat.gcd_comm x y,Nat.gcd_rec y x,Nat.gcd_comm]
   ·exact Subs.refl _
  ·simp at h
   exact absurd h h0
end
section
theorem o_oi (z:Int) (d:Nat) (hd:0<d):(mkRat z d).num.natAbs=z.natAbs/Nat.gcd z.natAbs d∧(mkRat z d).den=d/Nat.gcd z.natAbs d∧((mkRat z d).num<0↔z<0):=by
 have hg:0<Nat.gcd z.natAbs d:=Nat.gcd_pos_of_pos_right _ hd
 rw [Rat.mkRat_def,dif_neg (by omega),Rat.normalize_eq]
 have hdv:((Nat.gcd z.natAbs d:Nat):Int)∣z:=Int.ofNat_dvd_left.2 (Nat.gcd_dvd_left _ _)
 refine ⟨?_,rfl,?_⟩
 ·show (z/((Nat.gcd z.natAbs d:Nat):Int)).natAbs=_
  rw [Int.natAbs_ediv_of_dvd hdv,Int.natAbs_natCast]
 ·show z/((Nat.gcd z.natAbs d:Nat):Int)<0↔z<0
  obtain ⟨k,hk⟩:=hdv
  have hg':0<((Nat.gcd z.natAbs d:Nat):Int):=by omega
  generalize ((Nat.gcd z.natAbs d:Nat):Int)=g at *
  rw [hk,Int.mul_ediv_cancel_left _ (by omega)]
  constructor
  ·intro h;exact Int.mul_neg_of_pos_of_neg hg' h
  ·intro h
   rcases Int.lt_or_le k 0 with h1 | h1
   ·exact h1
   ·have:=Int.mul_nonneg (Int.le_of_lt hg') h1;omega
theorem o_oj (x y:Rat):x+y=mkRat (x.num*y.den+y.num*x.den) (x.den*y.den):=Rat.add_def' x y
theorem o_ok (x y:Rat):x*y=mkRat (x.num*y.num) (x.den*y.den):=Rat.mul_def' x y
theorem o_ol (x y:Rat):x<y↔x.num*y.den<y.num*x.den:=Rat.lt_iff x y
end
section
open Go.RowKit
def wD (z:Int):D:=.agg [natW z.natAbs,.bool (decide (z<0))]
def rD (q:Rat):D:=.agg [natW q.num.natAbs,.bool (decide (q.num<0)),natW (q.den-1)]

theorem o_om (a b:Nat):size (a*b)≤size a+size b:=by
 refine o_jt (o_k9 _) ?_
 rw [o_k7,Nat.pow_add]
 have ha:=o_jc (o_k8 a)
 have hb:=o_jc (o_k8 b)
 rw [o_k7] at ha hb
 unfold size
 exact Nat.mul_lt_mul'' ha hb
theorem o_on (a b:Nat):size (a+b)≤max (size a) (size b)+1:=by
 refine o_jt (o_k9 _) ?_
 rw [o_k7,Nat.pow_succ]
 have ha:=o_jc (o_k8 a)
 have hb:=o_jc (o_k8 b)
 rw [o_k7] at ha hb
 have h1:18446744073709551616^(words a).length≤18446744073709551616^max (size a) (size b):=Nat.pow_le_pow_right (by decide) (Nat.le_max_left _ _)
 have h2:18446744073709551616^(words b).length≤18446744073709551616^max (size a) (size b):=Nat.pow_le_pow_right (by decide) (Nat.le_max_right _ _)
 omega

theorem o_oo (m n:Nat) (hm:size m≤1000000) (hn:size n≤1000000) (hlt:m<n):Eqn Tryz.prog o_dm [.d (.agg [natW m]),.d (.agg [natW n])] [] (.tup [.d (.agg [.nilsl]),.d (.int .i64 2)]) []:=by
 refine Eqn.pure o_do Plain.ok ?_
 have hc:=o_kk m n hm hn
 have hlt':cmpZ m n<0:=o_le.2 hlt
 refine cc (c':=?z40) ?_ ?_
 case refine_1=>cbv<;>exact rfl
 refine G0 ?_;try with_reducible exact tt
 refine CallS.pu (hc) (R1 hlt' ?_);try with_reducible exact tt
 refine AW.cond rfl (fun h=>?_) (fun h=>?_)
 ·refine G0 ?_;try with_reducible exact tt
 ·simp [hlt'] at h

theorem o_op (s:Bool) (a:Nat):Eqn Tryz.prog o_bc [.d (.bool s),.d (.agg [natW a])] [] (.d (.agg [natW a,.bool (s&&decide (a≠0))])) []:=by
 refine Eqn.pure o_be Plain.ok ?_
 have hz:=o_ki a
 refine cc (c':=?z41) ?_ ?_
 case refine_1=>cbv<;>exact rfl
 cases s with
 | true =>
  refine G0 ?_;try with_reducible exact tt
  refine CallS.pu (hz) (R0 ?_);try with_reducible exact tt
  refine Sub1.of ?_
  simp
  cases a<;>rfl
 | false =>
  refine G0 ?_;try with_reducible exact tt
theorem o_oq (s:Bool) (a:Nat) (z:Int) (hz:z=if s then -(a:Int) else a):Eqn Tryz.prog o_bc [.d (.bool s),.d (.agg [natW a])] [] (.d (wD z)) []:=by
 have h:=o_op s a
 have e:D.agg [natW a,.bool (s&&decide (a≠0))]=wD z:=by
  subst hz
  unfold wD
  cases s with
  | true =>
   simp only [if_true,Int.natAbs_neg,Int.natAbs_natCast,Bool.true_and]
   congr 4
   rw [decide_eq_decide];omega
  | false =>
   simp only [Bool.false_and,Int.natAbs_natCast,Bool.false_eq_true,if_false]
   congr 4
 rw [e] at h
 exact h
theorem o_or (z:Int):Eqn Tryz.prog o_b6 [.d (wD z)] [] (.d (.agg [natW z.natAbs])) []:=o_mt _ _
theorem o_os (z:Int):Eqn Tryz.prog o_bf [.d (wD z)] [] (.d (.bool (decide (z<0)))) []:=o_mu _ _

theorem o_ot (x y:Int) (hx:size x.natAbs≤400000) (hy:size y.natAbs≤400000):Eqn Tryz.prog o_96 [.d (wD x),.d (wD y)] [] (.d (wD (x*y))) []:=by
 refine Eqn.pure o_98 (o_5d _) ?_
 have hm:=o_mq x.natAbs y.natAbs (by omega) (by omega)
 have hk:=fun s h=>o_oq s (x.natAbs*y.natAbs) (x*y) h
 refine cc (c':=?z42) ?_ ?_
 case refine_1=>cbv<;>exact rfl
 try simp only [wD] at hk ⊢
 refine G0 ?_;try with_reducible exact tt
 refine CallS.pu (hm) (R0 ?_);try with_reducible exact tt
 have e:x*y=if (decide (x<0) != decide (y<0))=true then -((x.natAbs*y.natAbs:Nat):Int) else ((x.natAbs*y.natAbs:Nat):Int):=by
  rw [Int.natCast_mul]
  by_cases h1:x<0<;>by_cases h2:y<0<;>simp only [h1,h2,decide_true,decide_false]
  ·rw [if_neg (by decide),Int.ofNat_natAbs_of_nonpos (by omega),Int.ofNat_natAbs_of_nonpos (by omega),Int.neg_mul_neg]
  ·rw [if_pos (by decide),Int.ofNat_natAbs_of_nonpos (by omega),Int.natAbs_of_nonneg (by omega),Int.neg_mul,Int.neg_neg]
  ·rw [if_pos (by decide),Int.ofNat_natAbs_of_nonpos (a:=y) (by omega),Int.natAbs_of_nonneg (by omega),Int.mul_neg,Int.neg_neg]
  ·rw [if_neg (by decide),Int.natAbs_of_nonneg (by omega),Int.natAbs_of_nonneg (by omega)]
 replace hk:=hk _ e
 refine CallS.pu (hk) (R0 ?_);try with_reducible exact tt

theorem o_ou (x:Int):Eqn Tryz.prog o_ac [.d (wD x)] [] (.d (wD (-x))) []:=by
 refine Eqn.pure o_ae (o_5d _) ?_
 have hk:=o_oq (!decide (x<0)) x.natAbs (-x) (by
  by_cases h:x<0
  ·simp only [h,decide_true,Bool.not_true,Bool.false_eq_true,if_false];omega
  ·simp only [h,decide_false,Bool.not_false,if_true];omega)
 refine cc (c':=?z43) ?_ ?_
 case refine_1=>cbv<;>exact rfl
 try simp only [wD] at hk ⊢
 refine G0 ?_;try with_reducible exact tt
 refine CallS.pu (hk) (R0 ?_);try with_reducible exact tt

theorem o_ov (x y:Int) (hx:size x.natAbs≤400000) (hy:size y.natAbs≤400000):Eqn Tryz.prog o_ar [.d (wD x),.d (wD y)] [] (.d (wD (x+y))) []:=by
 refine Eqn.pure o_at (o_5d _) ?_
 by_cases hs:decide (x<0)=decide (y<0)
 ·have ha:=o_ky x.natAbs y.natAbs (by omega) (by omega)
  have hk:=o_oq (decide (x<0)) (x.natAbs+y.natAbs) (x+y) (by
   rw [decide_eq_decide] at hs
   by_cases h:x<0
   ·rw [if_pos (by simpa using h)];omega
   ·rw [if_neg (by simpa using h)];omega)
  refine cc (c':=?z44) ?_ ?_
  case refine_1=>cbv<;>exact rfl
  try simp only [wD] at hk ⊢
  generalize decide (x<0)=sx at *
  generalize decide (y<0)=sy at *
  subst hs
  refine G0 ?_;try with_reducible exact tt
  refine AW.cond rfl (fun h=>?_) (fun h=>?_)
  ·refine G0 ?_;try with_reducible exact tt
   refine CallS.pu (ha) (R0 ?_);try with_reducible exact tt
   refine CallS.pu (hk) (R0 ?_);try with_reducible exact tt
  ·simp at h
 ·have hs':¬(x<0↔y<0):=fun h=>hs (decide_eq_decide.2 h)
  by_cases hle:y.natAbs≤x.natAbs
  ·have ha:=o_l2 x.natAbs y.natAbs (by omega) hle
   have hk:=o_oq (decide (x<0)) (x.natAbs-y.natAbs) (x+y) (by
    by_cases h:x<0
    ·rw [if_pos (by simpa using h)];omega
    ·rw [if_neg (by simpa using h)];omega)
   refine cc (c':=?z45) ?_ ?_
   case refine_1=>cbv<;>exact rfl
   try simp only [wD] at hk ⊢
   generalize decide (x<0)=sx at *
   generalize decide (y<0)=sy at *
   have hs2:(sx==sy)=false:=by simpa using hs
   refine G1 (fs hs2 hs) ?_;try with_reducible exact tt
   refine AW.cond rfl (fun h=>?_) (fun h=>?_)
   ·simp [hs2,hs] at h
   ·refine G0 ?_;try with_reducible exact tt
    refine CallS.pu (ha) (R0 ?_);try with_reducible exact tt
    refine AW.cond rfl (fun h=>?_) (fun h=>?_)
    ·refine G0 ?_;try with_reducible exact tt
     refine CallS.pu (hk) (R0 ?_);try with_reducible exact tt
    ·simp at h
  ·have hb:=o_oo x.natAbs y.natAbs (by omega) (by omega) (by omega)
   have ha:=o_l2 y.natAbs x.natAbs (by omega) (by omega)
   have hk:=o_oq (decide (y<0)) (y.natAbs-x.natAbs) (x+y) (by
    by_cases h:y<0
    ·rw [if_pos (by simpa using h)];omega
    ·rw [if_neg (by simpa using h)];omega)
   refine cc (c':=?z46) ?_ ?_
   case refine_1=>cbv<;>exact rfl
   try simp only [wD] at hk ⊢
   generalize decide (x<0)=sx at *
   generalize decide (y<0)=sy at *
   have hs2:(sx==sy)=false:=by simpa using hs
   refine G1 (fs hs2 hs) ?_;try with_reducible exact tt
   refine AW.cond rfl (fun h=>?_) (fun h=>?_)
   ·simp [hs2,hs] at h
   ·refine G0 ?_;try with_reducible exact tt
    refine CallS.pu (hb) (R0 ?_);try with_reducible exact tt
    refine AW.cond rfl (fun h=>?_) (fun h=>?_)
    ·simp at h
    ·refine G0 ?_;try with_reducible exact tt
     refine CallS.pu (ha) (R0 ?_);try with_reducible exact tt
     refine CallS.pu (hk) (R0 ?_);try with_reducible exact tt

def cmpI (x y:Int):Int:=if x<y then -1 else if y<x then 1 else 0
theorem o_ow (x y:Int) (hx:size x.natAbs≤900000) (hy:size y.natAbs≤900000):Eqn Tryz.prog o_93 [.d (wD x),.d (wD y)] [] (.d (.int .i64 (cmpI x y))) []:=by
 refine Eqn.pure o_95 (o_5d _) ?_
 have h1:=o_kk y.natAbs x.natAbs (by omega) (by omega)
 have h2:=o_kk x.natAbs y.natAbs (by omega) (by omega)
 refine cc (c':=?z47) ?_ ?_
 case refine_1=>cbv<;>exact rfl
 try simp only [wD]
 by_cases hx0:x<0<;>by_cases hy0:y<0
 ·have e:cmpI x y=cmpZ y.natAbs x.natAbs:=by
   unfold cmpI cmpZ
   split<;>split<;>first | omega | (split<;>omega)
  rw [←e] at h1
  simp only [hx0,hy0,decide_true,decide_false]
  refine G0 ?_;try with_reducible exact tt
  refine AW.cond rfl (fun h=>?_) (fun h=>?_)
  ·refine G0 ?_;try with_reducible exact tt
   refine CallS.pu (h1) (R0 ?_);try with_reducible exact tt
  ·simp at h
 ·have e:cmpI x y = -1:=by unfold cmpI;rw [if_pos (by omega)]
  rw [e]
  simp only [hx0,hy0,decide_true,decide_false]
  refine G0 ?_;try with_reducible exact tt
  refine AW.cond rfl (fun h=>?_) (fun h=>?_)
  ·simp at h
  refine G0 ?_;try with_reducible exact tt
  refine AW.cond rfl (fun h=>?_) (fun h=>?_)
  ·refine G0 ?_;try with_reducible exact tt
  ·simp at h
 ·have e:cmpI x y=1:=by unfold cmpI;rw [if_neg (by omega),if_pos (by omega)]
  rw [e]
  simp only [hx0,hy0,decide_true,decide_false]
  refine G0 ?_;try with_reducible exact tt
  refine AW.cond rfl (fun h=>?_) (fun h=>?_)
  ·simp at h
  refine G0 ?_;try with_reducible exact tt
  refine AW.cond rfl (fun h=>?_) (fun h=>?_)
  ·simp at h
  refine G0 ?_;try with_reducible exact tt
  refine AW.cond rfl (fun h=>?_) (fun h=>?_)
  ·refine G0 ?_;try with_reducible exact tt
  ·simp at h
 ·have e:cmpI x y=cmpZ x.natAbs y.natAbs:=by
   unfold cmpI cmpZ
   split<;>split<;>first | omega | (split<;>omega)
  rw [←e] at h2
  simp only [hx0,hy0,decide_true,decide_false]
  refine G0 ?_;try with_reducible exact tt
  refine AW.cond rfl (fun h=>?_) (fun h=>?_)
  ·simp at h
  refine G0 ?_;try with_reducible exact tt
  refine AW.cond rfl (fun h=>?_) (fun h=>?_)
  ·simp at h
  refine G0 ?_;try with_reducible exact tt
  refine AW.cond rfl (fun h=>?_) (fun h=>?_)
  ·simp at h
  refine G0 ?_;try with_reducible exact tt
  refine CallS.pu (h2) (R0 ?_);try with_reducible exact tt
end
section
open Go.RowKit
theorem o_ox (z:Int) (d:Nat) (hd:0<d) (hz:size z.natAbs≤900000) (hds:size d≤900000):Eqn Tryz.prog o_a6 [.d (wD z),.d (.agg [natW d])] [] (.d (rD (mkRat z d))) []:=by
 refine Eqn.pure o_a8 (o_5d _) ?_
 obtain ⟨p1,p2,p3⟩:=o_oi z d hd
 have hg0:0<Nat.gcd z.natAbs d:=Nat.gcd_pos_of_pos_right _ hd
 have hgs:size (Nat.gcd z.natAbs d)≤900000:=Nat.le_trans (o_l1 (Nat.gcd_le_right _ hd)) hds
 have h1:=o_oh z.natAbs d hz hds
 have h2:=o_og z.natAbs (Nat.gcd z.natAbs d) hz hg0 hgs
 have h3:=o_og d (Nat.gcd z.natAbs d) hds hg0 hgs
 have hdp:0<d/Nat.gcd z.natAbs d:=Nat.div_pos (Nat.gcd_le_right _ hd) hg0
 have hdq:size (d/Nat.gcd z.natAbs d)≤900000:=Nat.le_trans (o_l1 (Nat.div_le_self _ _)) hds
 have h4:=o_l2 (d/Nat.gcd z.natAbs d) 1 (by omega) hdp
 have hab:=o_or z
 have hng:=o_os z
 have hk:=o_op (decide (z<0)) (z.natAbs/Nat.gcd z.natAbs d)
 have hsg:(decide (z<0)&&decide (z.natAbs/Nat.gcd z.natAbs d≠0))=decide ((mkRat z d).num<0):=by
  rw [Bool.eq_iff_iff]
  simp only [Bool.and_eq_true,decide_eq_true_eq,p3]
  rw [←p1]
  constructor
  ·intro h;exact h.1
  ·intro h
   have:=p3.2 h
   exact ⟨h,by omega⟩
 rw [hsg,←p1] at hk
 rw [←p1] at h2
 rw [←p2] at h3 h4
 refine cc (c':=?z48) ?_ ?_
 case refine_1=>cbv<;>exact rfl
 try simp only [rD,wD] at hab hng ⊢
 refine G0 ?_;try with_reducible exact tt
 refine CallS.pu (hab) (R0 ?_);try with_reducible exact tt
 refine CallS.pu (h1) (R0 ?_);try with_reducible exact tt
 refine CallS.pu (hab) (R0 ?_);try with_reducible exact tt
 refine CallS.pu (h2) (R0 ?_);try with_reducible exact tt
 refine CallS.pu (h3) (R0 ?_);try with_reducible exact tt
 refine CallS.pf 8 1 ⟨199,_⟩ [.int .u64 (1:Nat)] (o_kh [1] (o_ld (by omega)) (by simp)) (by first | rfl | (simp;done)) (R0 ?_);try with_reducible exact tt
 refine CallS.pu (h4) (R0 ?_);try with_reducible exact tt
 refine CallS.pu (hng) (R0 ?_);try with_reducible exact tt
 refine CallS.pu (hk) (R0 ?_);try with_reducible exact tt

theorem o_oy (q:Rat) (h:size q.den≤900000):Eqn Tryz.prog o_a0 [.d (rD q)] [] (.d (.agg [natW q.den])) []:=by
 have hp:=q.den_pos
 have:=o_mw q.num.natAbs (q.den-1) (decide (q.num<0)) (Nat.le_trans (o_l1 (Nat.sub_le _ _)) (by omega))
 rw [show q.den-1+1=q.den by omega] at this
 exact this
theorem o_oz (q:Rat) (h:size q.den≤900000):Eqn Tryz.prog o_99 [.d (rD q)] [] (.d (wD q.den)) []:=by
 refine Eqn.pure o_9b (o_5d _) ?_
 have h1:=o_oy q h
 have h2:=o_oq false q.den (q.den:Int) rfl
 refine cc (c':=?z49) ?_ ?_
 case refine_1=>cbv<;>exact rfl
 try simp only [rD,wD] at h1 h2 ⊢
 refine G0 ?_;try with_reducible exact tt
 refine CallS.pu (h1) (R0 ?_);try with_reducible exact tt
 refine CallS.pu (h2) (R0 ?_);try with_reducible exact tt

def RS (q:Rat) (N:Nat):Prop:=size q.num.natAbs≤N∧size q.den≤N
theorem RS.le {q:Rat} {N M:Nat} (h:RS q N) (hm:N≤M):RS q M:=⟨Nat.le_trans h.1 hm,Nat.le_trans h.2 hm⟩
theorem RS.mk' {z:Int} {d N:Nat} (hd:0<d) (h1:size z.natAbs≤N) (h2:size d≤N):RS (mkRat z d) N:=by
 obtain ⟨p1,p2,-⟩:=o_oi z d hd
 refine ⟨?_,?_⟩
 ·rw [p1];exact Nat.le_trans (o_l1 (Nat.div_le_self _ _)) h1
 ·rw [p2];exact Nat.le_trans (o_l1 (Nat.div_le_self _ _)) h2
theorem RS.mul {x y:Rat} {N M:Nat} (hx:RS x N) (hy:RS y M):RS (x*y) (N+M):=by
 rw [o_ok]
 refine RS.mk' (Nat.mul_pos x.den_pos y.den_pos) ?_ ?_
 ·rw [Int.natAbs_mul];have:=o_om x.num.natAbs y.num.natAbs;have:=hx.1;have:=hy.1;omega
 ·have:=o_om x.den y.den;have:=hx.2;have:=hy.2;omega
theorem RS.add {x y:Rat} {N M:Nat} (hx:RS x N) (hy:RS y M):RS (x+y) (N+M+1):=by
 rw [o_oj]
 refine RS.mk' (Nat.mul_pos x.den_pos y.den_pos) ?_ ?_
 ·have h1:=o_l1 (Int.natAbs_add_le (x.num*y.den) (y.num*x.den))
  have h2:=o_on (x.num*y.den).natAbs (y.num*x.den).natAbs
  rw [Int.natAbs_mul,Int.natAbs_mul,Int.natAbs_natCast,Int.natAbs_natCast] at *
  have h3:=o_om x.num.natAbs y.den
  have h4:=o_om y.num.natAbs x.den
  have:=hx.1;have:=hy.1;have:=hx.2;have:=hy.2
  omega
 ·have:=o_om x.den y.den;have:=hx.2;have:=hy.2;omega
theorem RS.neg {x:Rat} {N:Nat} (hx:RS x N):RS (-x) N:=by
 refine ⟨?_,?_⟩
 ·rw [Rat.neg_num,Int.natAbs_neg];exact hx.1
 ·rw [Rat.neg_den];exact hx.2
theorem RS.sub {x y:Rat} {N M:Nat} (hx:RS x N) (hy:RS y M):RS (x-y) (N+M+1):=by
 rw [Rat.sub_eq_add_neg];exact hx.add hy.neg

theorem o_p0 (x y:Rat) (hx:RS x 100000) (hy:RS y 100000):Eqn Tryz.prog o_7f [.d (rD x),.d (rD y)] [] (.d (rD (x*y))) []:=by
 refine Eqn.pure o_7h (o_5d _) ?_
 have h1:=o_ot x.num y.num (by have:=hx.1;omega) (by have:=hy.1;omega)
 have h2:=o_oy x (by have:=hx.2;omega)
 have h3:=o_oy y (by have:=hy.2;omega)
 have h4:=o_mq x.den y.den (by have:=hx.2;omega) (by have:=hy.2;omega)
 have h5:=o_ox (x.num*y.num) (x.den*y.den) (Nat.mul_pos x.den_pos y.den_pos) (by rw [Int.natAbs_mul];have:=o_om x.num.natAbs y.num.natAbs;have:=hx.1;have:=hy.1;omega) (by have:=o_om x.den y.den;have:=hx.2;have:=hy.2;omega)
 rw [←o_ok] at h5
 refine cc (c':=?z50) ?_ ?_
 case refine_1=>cbv<;>exact rfl
 try simp only [rD,wD] at h1 h2 h3 h5 ⊢
 refine G0 ?_;try with_reducible exact tt
 refine CallS.pu (h1) (R0 ?_);try with_reducible exact tt
 refine CallS.pu (h2) (R0 ?_);try with_reducible exact tt
 refine CallS.pu (h3) (R0 ?_);try with_reducible exact tt
 refine CallS.pu (h4) (R0 ?_);try with_reducible exact tt
 refine CallS.pu (h5) (R0 ?_);try with_reducible exact tt

theorem o_p1 (x y:Rat) (hx:RS x 100000) (hy:RS y 100000):Eqn Tryz.prog o_7l [.d (rD x),.d (rD y)] [] (.d (rD (x+y))) []:=by
 refine Eqn.pure o_7n (o_5d _) ?_
 have x1:=hx.1;have x2:=hx.2;have y1:=hy.1;have y2:=hy.2
 have s1:=o_om x.num.natAbs y.den
 have s2:=o_om y.num.natAbs x.den
 have e1:(x.num*(y.den:Int)).natAbs=x.num.natAbs*y.den:=by rw [Int.natAbs_mul,Int.natAbs_natCast]
 have e2:(y.num*(x.den:Int)).natAbs=y.num.natAbs*x.den:=by rw [Int.natAbs_mul,Int.natAbs_natCast]
 have h1:=o_ot x.num y.den (by omega) (by rw [Int.natAbs_natCast];omega)
 have h1':=o_ot y.num x.den (by omega) (by rw [Int.natAbs_natCast];omega)
 have h2:=o_oy x (by omega)
 have h3:=o_oy y (by omega)
 have h2':=o_oz x (by omega)
 have h3':=o_oz y (by omega)
 have h4:=o_mq x.den y.den (by omega) (by omega)
 have h6:=o_ov (x.num*y.den) (y.num*x.den) (by rw [e1];omega) (by rw [e2];omega)
 have h5:=o_ox (x.num*y.den+y.num*x.den) (x.den*y.den) (Nat.mul_pos x.den_pos y.den_pos) (by
  have h1:=o_l1 (Int.natAbs_add_le (x.num*y.den) (y.num*x.den))
  have h2:=o_on (x.num*y.den).natAbs (y.num*x.den).natAbs
  rw [e1,e2] at *
  omega) (by have:=o_om x.den y.den;omega)
 rw [←o_oj] at h5
 refine cc (c':=?z51) ?_ ?_
 case refine_1=>cbv<;>exact rfl
 try simp only [rD] at h2 h3 h2' h3' h5 ⊢
 generalize hz1:x.num*(y.den:Int)=z1 at *
 generalize hz2:y.num*(x.den:Int)=z2 at *
 simp only [wD] at h1 h1' h2' h3' h5 h6
 refine G0 ?_;try with_reducible exact tt
 refine CallS.pu (h3') (R0 ?_);try with_reducible exact tt
 refine CallS.pu (h1) (R0 ?_);try with_reducible exact tt
 refine CallS.pu (h2') (R0 ?_);try with_reducible exact tt
 refine CallS.pu (h1') (R0 ?_);try with_reducible exact tt
 refine CallS.pu (h6) (R0 ?_);try with_reducible exact tt
 refine CallS.pu (h2) (R0 ?_);try with_reducible exact tt
 refine CallS.pu (h3) (R0 ?_);try with_reducible exact tt
 refine CallS.pu (h4) (R0 ?_);try with_reducible exact tt
 refine CallS.pu (h5) (R0 ?_);try with_reducible exact tt

theorem o_p2 (x y:Rat) (hx:RS x 100000) (hy:RS y 100000):Eqn Tryz.prog o_7i [.d (rD x),.d (rD y)] [] (.d (rD (x-y))) []:=by
 refine Eqn.pure o_7k (o_5d _) ?_
 have h1:=o_ou y.num
 have h2:=o_p1 x (-y) hx hy.neg
 rw [←Rat.sub_eq_add_neg] at h2
 refine cc (c':=?z52) ?_ ?_
 case refine_1=>cbv<;>exact rfl
 try simp only [rD,wD,Rat.neg_num,Rat.neg_den] at h1 h2 ⊢
 obtain ⟨w,hw⟩:∃w,D.bool (decide (-y.num<0))=w:=⟨_,rfl⟩
 obtain ⟨u,hu⟩:∃u,natW (-y.num).natAbs=u:=⟨_,rfl⟩
 rw [hu,hw] at h1 h2
 clear hu hw
 refine G0 ?_;try with_reducible exact tt
 refine CallS.pu (h1) (R0 ?_);try with_reducible exact tt
 refine CallS.pu (h2) (R0 ?_);try with_reducible exact tt

def cmpQ (x y:Rat):Int:=if x<y then -1 else if y<x then 1 else 0
theorem o_p3 (x y:Rat) (hx:RS x 100000) (hy:RS y 100000):Eqn Tryz.prog o_70 [.d (rD x),.d (rD y)] [] (.d (.int .i64 (cmpQ x y))) []:=by
 refine Eqn.pure o_72 (o_5d _) ?_
 have x1:=hx.1;have x2:=hx.2;have y1:=hy.1;have y2:=hy.2
 have s1:=o_om x.num.natAbs y.den
 have s2:=o_om y.num.natAbs x.den
 have e1:(x.num*(y.den:Int)).natAbs=x.num.natAbs*y.den:=by rw [Int.natAbs_mul,Int.natAbs_natCast]
 have e2:(y.num*(x.den:Int)).natAbs=y.num.natAbs*x.den:=by rw [Int.natAbs_mul,Int.natAbs_natCast]
 have h1:=o_ot x.num y.den (by omega) (by rw [Int.natAbs_natCast];omega)
 have h1':=o_ot y.num x.den (by omega) (by rw [Int.natAbs_natCast];omega)
 have h2':=o_oz x (by omega)
 have h3':=o_oz y (by omega)
 have h6:=o_ow (x.num*y.den) (y.num*x.den) (by rw [e1];omega) (by rw [e2];omega)
 have e:cmpI (x.num*y.den) (y.num*x.den)=cmpQ x y:=by
  have a:=o_ol x y
  have b:=o_ol y x
  unfold cmpI cmpQ
  by_cases h:x<y
  ·rw [if_pos h,if_pos (a.1 h)]
  ·rw [if_neg h,if_neg (fun q=>h (a.2 q))]
   by_cases h2:y<x
   ·rw [if_pos h2,if_pos (b.1 h2)]
   ·rw [if_neg h2,if_neg (fun q=>h2 (b.2 q))]
 rw [e] at h6
 refine cc (c':=?z53) ?_ ?_
 case refine_1=>cbv<;>exact rfl
 try simp only [rD] at h2' h3' ⊢
 generalize hz1:x.num*(y.den:Int)=z1 at *
 generalize hz2:y.num*(x.den:Int)=z2 at *
 simp only [wD] at h1 h1' h2' h3' h6
 refine G0 ?_;try with_reducible exact tt
 refine CallS.pu (h3') (R0 ?_);try with_reducible exact tt
 refine CallS.pu (h1) (R0 ?_);try with_reducible exact tt
 refine CallS.pu (h2') (R0 ?_);try with_reducible exact tt
 refine CallS.pu (h1') (R0 ?_);try with_reducible exact tt
 refine CallS.pu (h6) (R0 ?_);try with_reducible exact tt

theorem o_p4 {I:Nat→Prop} {w:World} {v:Value} (h:D.rep I w .nilsl v):D.rep I w (natW 0) v:=by
 have:=Sub1.nil (⟨fun _=>none,I,w⟩:Mem) v (by rw [V.rep_d];exact h)
 rw [V.rep_d] at this
 exact this
theorem Sub1.rat0 {x y:D}:Sub1 (.d (.agg [x,y,.nilsl])) (.d (.agg [x,y,natW 0])):=fun m v k=>by
 rw [V.rep_d] at k ⊢
 unfold D.rep at k ⊢
 obtain ⟨vs,h1,h0,h2⟩:=k
 refine ⟨vs,h1,h0,?_⟩
 obtain ⟨a,r,rfl,ha,h2⟩:=D.reps_cons'.1 h2
 obtain ⟨b,r,rfl,hb,h2⟩:=D.reps_cons'.1 h2
 obtain ⟨c,r,rfl,hc,h2⟩:=D.reps_cons'.1 h2
 exact D.reps_cons.2 ⟨ha,D.reps_cons.2 ⟨hb,D.reps_cons.2 ⟨o_p4 hc,h2⟩⟩⟩
theorem o_p5 (n:Nat):Eqn Tryz.prog o_f7 [.d (.agg [natW n])] [] (.d (rD (n:Rat))) []:=by
 refine Eqn.pure o_f9 (o_5d _) ?_
 have h1:=o_oq false n (n:Int) rfl
 have e:rD (n:Rat) = .agg [natW n,.bool false,natW 0]:=by
  unfold rD
  rw [Rat.num_natCast,Rat.den_natCast,Int.natAbs_natCast]
  congr 4
 rw [e]
 have e2:wD (n:Int) = .agg [natW n,.bool false]:=by
  unfold wD
  rw [Int.natAbs_natCast]
  congr 4
 rw [e2] at h1
 refine cc (c':=?z54) ?_ ?_
 case refine_1=>cbv<;>exact rfl
 refine G0 ?_;try with_reducible exact tt
 refine CallS.pu (h1) (R0 ?_);try with_reducible exact tt
 exact Sub1.rat0
end
end Go.Proofs.YtjbcbbfhcbnncaaGreatDoor.Am
