/- Parts of the proof: CodeD, WordsM, Nat1, Nat2, Nat3, Nat4, Nat5, Nat6, YuM, DivM, Nat7, Mul1, Div1, Mul2, Rat1, Rat2, DivN, Nat8, Nat9, Nat10, Rat3, RatQ, Rat4, Rat5. -/
import Derived.Test.YtidfejfgmlakpaaGreatDoorPb
set_option linter.unusedVariables false
set_option linter.unusedSimpArgs false
set_option maxRecDepth 100000
namespace Go.Proofs.YtidfejfgmlakpaaGreatDoor.Am
section
open Go.Proofs.YtidfejfgmlakpaaGreatDoor.Am
theorem mix:Tryz.prog.follows .mixedOrders=true:=by kernel_rfl
@[simp] def om_ (d s:Nat) (l:List Nat):O:=⟨some d,.mv (.t s),none,l⟩
@[simp] def oo_ (d:Nat) (a:A) (l:List Nat):O:=⟨some d,a,none,l⟩
@[simp] def og_ (d:Nat) (a:A) (s:Nat) (b:Bool) (l:List Nat):O:=⟨some d,a,some (s,b),l⟩
@[simp] def on_ (a:A) (l:List Nat):O:=⟨none,a,none,l⟩
noncomputable def codeOf (P:Program) (f:FuncId):C:=match fnOf P f with | some x=>x.1 | none=>.skip
theorem fno {P:Program} {f:FuncId} {rs:List RV} {nt:Nat} (h:((fnOf P f).map fun x=>x.2)=some (rs,nt,false)):fnOf P f=some (codeOf P f,rs,nt,false):=by
 unfold codeOf
 cases e:fnOf P f with
 | none=>rw [e] at h;cases h
 | some x=>rw [e] at h;simp only [Option.map_some,Option.some.injEq] at h;simp only [←h]
theorem cc {P:Program} {N:Nat} {c c':C} {Q:Exit→List V→List (Option Ob)→Prop} {T:List V} {H:List (Option Ob)} (h:c=c') (k:AW P N c' Q T H):AW P N c Q T H:=h▸k

abbrev o_6p:FuncId:=3
noncomputable def o_6q:C:=codeOf Tryz.prog o_6p
theorem o_6r:fnOf Tryz.prog o_6p=some (o_6q,[.t 6],241,false):=fno (by kernel_rfl)

abbrev o_6s:FuncId:=4
noncomputable def o_6t:C:=codeOf Tryz.prog o_6s
theorem o_6u:fnOf Tryz.prog o_6s=some (o_6t,[.t 0],48,false):=fno (by kernel_rfl)

abbrev o_6v:FuncId:=5
noncomputable def o_6w:C:=codeOf Tryz.prog o_6v
theorem o_6x:fnOf Tryz.prog o_6v=some (o_6w,[.cell 2 true 3],10,false):=fno (by kernel_rfl)

abbrev o_6y:FuncId:=6
noncomputable def o_6z:C:=codeOf Tryz.prog o_6y
theorem o_70:fnOf Tryz.prog o_6y=some (o_6z,[.cell 2 true 3],10,false):=fno (by kernel_rfl)

abbrev o_71:FuncId:=7
noncomputable def o_72:C:=codeOf Tryz.prog o_71
theorem o_73:fnOf Tryz.prog o_71=some (o_72,[.t 4,.t 5],18,false):=fno (by kernel_rfl)

abbrev o_74:FuncId:=8
noncomputable def o_75:C:=codeOf Tryz.prog o_74
theorem o_76:fnOf Tryz.prog o_74=some (o_75,[.t 6,.t 7],43,false):=fno (by kernel_rfl)

abbrev o_77:FuncId:=9
noncomputable def o_78:C:=codeOf Tryz.prog o_77
theorem o_79:fnOf Tryz.prog o_77=some (o_78,[.t 6,.t 7],22,false):=fno (by kernel_rfl)

abbrev o_7a:FuncId:=10
noncomputable def o_7b:C:=codeOf Tryz.prog o_7a
theorem o_7c:fnOf Tryz.prog o_7a=some (o_7b,[.t 2],20,false):=fno (by kernel_rfl)

abbrev o_7d:FuncId:=11
noncomputable def o_7e:C:=codeOf Tryz.prog o_7d
theorem o_7f:fnOf Tryz.prog o_7d=some (o_7e,[.t 4],58,false):=fno (by kernel_rfl)

abbrev o_7g:FuncId:=12
noncomputable def o_7h:C:=codeOf Tryz.prog o_7g
theorem o_7i:fnOf Tryz.prog o_7g=some (o_7h,[.t 4],84,false):=fno (by kernel_rfl)

abbrev o_7j:FuncId:=13
noncomputable def o_7k:C:=codeOf Tryz.prog o_7j
theorem o_7l:fnOf Tryz.prog o_7j=some (o_7k,[.t 4],16,false):=fno (by kernel_rfl)

abbrev o_7m:FuncId:=14
noncomputable def o_7n:C:=codeOf Tryz.prog o_7m
theorem o_7o:fnOf Tryz.prog o_7m=some (o_7n,[.t 2],16,false):=fno (by kernel_rfl)

abbrev o_7p:FuncId:=15
noncomputable def o_7q:C:=codeOf Tryz.prog o_7p
theorem o_7r:fnOf Tryz.prog o_7p=some (o_7q,[.t 4],16,false):=fno (by kernel_rfl)

abbrev o_7s:FuncId:=16
noncomputable def o_7t:C:=codeOf Tryz.prog o_7s
theorem o_7u:fnOf Tryz.prog o_7s=some (o_7t,[.t 4],36,false):=fno (by kernel_rfl)

abbrev o_7v:FuncId:=17
noncomputable def o_7w:C:=codeOf Tryz.prog o_7v
theorem o_7x:fnOf Tryz.prog o_7v=some (o_7w,[.t 2],26,false):=fno (by kernel_rfl)

abbrev o_7y:FuncId:=18
noncomputable def o_7z:C:=codeOf Tryz.prog o_7y
theorem o_80:fnOf Tryz.prog o_7y=some (o_7z,[.t 4],14,false):=fno (by kernel_rfl)

abbrev o_81:FuncId:=19
noncomputable def o_82:C:=codeOf Tryz.prog o_81
theorem o_83:fnOf Tryz.prog o_81=some (o_82,[.t 2],16,false):=fno (by kernel_rfl)

abbrev o_84:FuncId:=20
noncomputable def o_85:C:=codeOf Tryz.prog o_84
theorem o_86:fnOf Tryz.prog o_84=some (o_85,[.t 2],7,false):=fno (by kernel_rfl)

abbrev o_87:FuncId:=21
noncomputable def o_88:C:=codeOf Tryz.prog o_87
theorem o_89:fnOf Tryz.prog o_87=some (o_88,[.t 4],40,false):=fno (by kernel_rfl)

abbrev o_8a:FuncId:=22
noncomputable def o_8b:C:=codeOf Tryz.prog o_8a
theorem o_8c:fnOf Tryz.prog o_8a=some (o_8b,[.t 3],7,false):=fno (by kernel_rfl)

abbrev o_8d:FuncId:=23
noncomputable def o_8e:C:=codeOf Tryz.prog o_8d
theorem o_8f:fnOf Tryz.prog o_8d=some (o_8e,[.t 6],79,false):=fno (by kernel_rfl)

abbrev o_8g:FuncId:=24
noncomputable def o_8h:C:=codeOf Tryz.prog o_8g
theorem o_8i:fnOf Tryz.prog o_8g=some (o_8h,[.t 2],21,false):=fno (by kernel_rfl)

abbrev o_8j:FuncId:=25
noncomputable def o_8k:C:=codeOf Tryz.prog o_8j
theorem o_8l:fnOf Tryz.prog o_8j=some (o_8k,[.t 2],63,false):=fno (by kernel_rfl)

abbrev o_8m:FuncId:=26
noncomputable def o_8n:C:=codeOf Tryz.prog o_8m
theorem o_8o:fnOf Tryz.prog o_8m=some (o_8n,[.t 4],36,false):=fno (by kernel_rfl)

abbrev o_8p:FuncId:=27
noncomputable def o_8q:C:=codeOf Tryz.prog o_8p
theorem o_8r:fnOf Tryz.prog o_8p=some (o_8q,[.t 2],7,false):=fno (by kernel_rfl)

abbrev o_8s:FuncId:=28
noncomputable def o_8t:C:=codeOf Tryz.prog o_8s
theorem o_8u:fnOf Tryz.prog o_8s=some (o_8t,[.cell 2 true 3],6,false):=fno (by kernel_rfl)

abbrev o_8v:FuncId:=29
noncomputable def o_8w:C:=codeOf Tryz.prog o_8v
theorem o_8x:fnOf Tryz.prog o_8v=some (o_8w,[.t 4],45,false):=fno (by kernel_rfl)

abbrev o_8y:FuncId:=30
noncomputable def o_8z:C:=codeOf Tryz.prog o_8y
theorem o_90:fnOf Tryz.prog o_8y=some (o_8z,[.cell 4 true 3],22,false):=fno (by kernel_rfl)

abbrev o_91:FuncId:=31
noncomputable def o_92:C:=codeOf Tryz.prog o_91
theorem o_93:fnOf Tryz.prog o_91=some (o_92,[.t 4],28,false):=fno (by kernel_rfl)

abbrev o_94:FuncId:=32
noncomputable def o_95:C:=codeOf Tryz.prog o_94
theorem o_96:fnOf Tryz.prog o_94=some (o_95,[.cell 4 true 2],16,false):=fno (by kernel_rfl)

abbrev o_97:FuncId:=33
noncomputable def o_98:C:=codeOf Tryz.prog o_97
theorem o_99:fnOf Tryz.prog o_97=some (o_98,[.cell 2 true 2],6,false):=fno (by kernel_rfl)

abbrev o_9a:FuncId:=34
noncomputable def o_9b:C:=codeOf Tryz.prog o_9a
theorem o_9c:fnOf Tryz.prog o_9a=some (o_9b,[.t 2],6,false):=fno (by kernel_rfl)

abbrev o_9d:FuncId:=35
noncomputable def o_9e:C:=codeOf Tryz.prog o_9d
theorem o_9f:fnOf Tryz.prog o_9d=some (o_9e,[.t 2],12,false):=fno (by kernel_rfl)

abbrev o_9g:FuncId:=36
noncomputable def o_9h:C:=codeOf Tryz.prog o_9g
theorem o_9i:fnOf Tryz.prog o_9g=some (o_9h,[.cell 2 true 1],8,false):=fno (by kernel_rfl)

abbrev o_9j:FuncId:=37
noncomputable def o_9k:C:=codeOf Tryz.prog o_9j
theorem o_9l:fnOf Tryz.prog o_9j=some (o_9k,[.t 2],38,false):=fno (by kernel_rfl)

abbrev o_9m:FuncId:=38
noncomputable def o_9n:C:=codeOf Tryz.prog o_9m
theorem o_9o:fnOf Tryz.prog o_9m=some (o_9n,[.t 6],20,false):=fno (by kernel_rfl)

abbrev o_9p:FuncId:=39
noncomputable def o_9q:C:=codeOf Tryz.prog o_9p
theorem o_9r:fnOf Tryz.prog o_9p=some (o_9q,[.cell 2 true 3],11,false):=fno (by kernel_rfl)

abbrev o_9s:FuncId:=40
noncomputable def o_9t:C:=codeOf Tryz.prog o_9s
theorem o_9u:fnOf Tryz.prog o_9s=some (o_9t,[.t 3],7,false):=fno (by kernel_rfl)

abbrev o_9v:FuncId:=41
noncomputable def o_9w:C:=codeOf Tryz.prog o_9v
theorem o_9x:fnOf Tryz.prog o_9v=some (o_9w,[.t 4],29,false):=fno (by kernel_rfl)

abbrev o_9y:FuncId:=42
noncomputable def o_9z:C:=codeOf Tryz.prog o_9y
theorem o_a0:fnOf Tryz.prog o_9y=some (o_9z,[.cell 2 true 3],10,false):=fno (by kernel_rfl)

abbrev o_a1:FuncId:=43
noncomputable def o_a2:C:=codeOf Tryz.prog o_a1
theorem o_a3:fnOf Tryz.prog o_a1=some (o_a2,[.cell 4 true 3,.t 5],27,false):=fno (by kernel_rfl)

abbrev o_a4:FuncId:=44
noncomputable def o_a5:C:=codeOf Tryz.prog o_a4
theorem o_a6:fnOf Tryz.prog o_a4=some (o_a5,[.t 6],26,false):=fno (by kernel_rfl)

abbrev o_a7:FuncId:=45
abbrev o_a8:FuncId:=46
noncomputable def o_a9:C:=codeOf Tryz.prog o_a8
theorem o_aa:fnOf Tryz.prog o_a8=some (o_a9,[.t 4],30,false):=fno (by kernel_rfl)

abbrev o_ab:FuncId:=47
noncomputable def o_ac:C:=codeOf Tryz.prog o_ab
theorem o_ad:fnOf Tryz.prog o_ab=some (o_ac,[.t 2],12,false):=fno (by kernel_rfl)

abbrev o_ae:FuncId:=48
noncomputable def o_af:C:=codeOf Tryz.prog o_ae
theorem o_ag:fnOf Tryz.prog o_ae=some (o_af,[.t 4],9,false):=fno (by kernel_rfl)

abbrev o_ah:FuncId:=49
noncomputable def o_ai:C:=codeOf Tryz.prog o_ah
theorem o_aj:fnOf Tryz.prog o_ah=some (o_ai,[.t 3],8,false):=fno (by kernel_rfl)

abbrev o_ak:FuncId:=50
noncomputable def o_al:C:=codeOf Tryz.prog o_ak
theorem o_am:fnOf Tryz.prog o_ak=some (o_al,[],13,false):=fno (by kernel_rfl)

abbrev o_an:FuncId:=51
noncomputable def o_ao:C:=codeOf Tryz.prog o_an
theorem o_ap:fnOf Tryz.prog o_an=some (o_ao,[.cell 4 true 3],16,false):=fno (by kernel_rfl)

abbrev o_aq:FuncId:=52
noncomputable def o_ar:C:=codeOf Tryz.prog o_aq
theorem o_as:fnOf Tryz.prog o_aq=some (o_ar,[.t 6],32,false):=fno (by kernel_rfl)

abbrev o_at:FuncId:=53
noncomputable def o_au:C:=codeOf Tryz.prog o_at
theorem o_av:fnOf Tryz.prog o_at=some (o_au,[.t 4],16,false):=fno (by kernel_rfl)

abbrev o_aw:FuncId:=54
noncomputable def o_ax:C:=codeOf Tryz.prog o_aw
theorem o_ay:fnOf Tryz.prog o_aw=some (o_ax,[.t 3],7,false):=fno (by kernel_rfl)

abbrev o_az:FuncId:=55
noncomputable def o_b0:C:=codeOf Tryz.prog o_az
theorem o_b1:fnOf Tryz.prog o_az=some (o_b0,[.t 2],13,false):=fno (by kernel_rfl)

abbrev o_b2:FuncId:=56
noncomputable def o_b3:C:=codeOf Tryz.prog o_b2
theorem o_b4:fnOf Tryz.prog o_b2=some (o_b3,[.cell 2 true 2],16,false):=fno (by kernel_rfl)

abbrev o_b5:FuncId:=57
noncomputable def o_b6:C:=codeOf Tryz.prog o_b5
theorem o_b7:fnOf Tryz.prog o_b5=some (o_b6,[.cell 2 true 2],8,false):=fno (by kernel_rfl)

abbrev o_b8:FuncId:=58
noncomputable def o_b9:C:=codeOf Tryz.prog o_b8
theorem o_ba:fnOf Tryz.prog o_b8=some (o_b9,[.t 4],46,false):=fno (by kernel_rfl)

abbrev o_bb:FuncId:=59
noncomputable def o_bc:C:=codeOf Tryz.prog o_bb
theorem o_bd:fnOf Tryz.prog o_bb=some (o_bc,[.cell 2 true 3],10,false):=fno (by kernel_rfl)

abbrev o_be:FuncId:=60
noncomputable def o_bf:C:=codeOf Tryz.prog o_be
theorem o_bg:fnOf Tryz.prog o_be=some (o_bf,[.cell 2 true 3],10,false):=fno (by kernel_rfl)

abbrev o_bh:FuncId:=61
noncomputable def o_bi:C:=codeOf Tryz.prog o_bh
theorem o_bj:fnOf Tryz.prog o_bh=some (o_bi,[.t 2],10,false):=fno (by kernel_rfl)

abbrev o_bk:FuncId:=62
noncomputable def o_bl:C:=codeOf Tryz.prog o_bk
theorem o_bm:fnOf Tryz.prog o_bk=some (o_bl,[.cell 4 true 3],46,false):=fno (by kernel_rfl)

abbrev o_bn:FuncId:=63
noncomputable def o_bo:C:=codeOf Tryz.prog o_bn
theorem o_bp:fnOf Tryz.prog o_bn=some (o_bo,[.cell 4 true 2],48,false):=fno (by kernel_rfl)

abbrev o_bq:FuncId:=64
noncomputable def o_br:C:=codeOf Tryz.prog o_bq
theorem o_bs:fnOf Tryz.prog o_bq=some (o_br,[.cell 4 true 1],85,false):=fno (by kernel_rfl)

abbrev o_bt:FuncId:=65
noncomputable def o_bu:C:=codeOf Tryz.prog o_bt
theorem o_bv:fnOf Tryz.prog o_bt=some (o_bu,[.t 4],47,false):=fno (by kernel_rfl)

abbrev o_bw:FuncId:=66
noncomputable def o_bx:C:=codeOf Tryz.prog o_bw
theorem o_by:fnOf Tryz.prog o_bw=some (o_bx,[.cell 4 true 2],13,false):=fno (by kernel_rfl)

abbrev o_bz:FuncId:=67
noncomputable def o_c0:C:=codeOf Tryz.prog o_bz
theorem o_c1:fnOf Tryz.prog o_bz=some (o_c0,[.t 2],7,false):=fno (by kernel_rfl)

abbrev o_c2:FuncId:=68
noncomputable def o_c3:C:=codeOf Tryz.prog o_c2
theorem o_c4:fnOf Tryz.prog o_c2=some (o_c3,[.cell 4 true 1],61,false):=fno (by kernel_rfl)

abbrev o_c5:FuncId:=69
noncomputable def o_c6:C:=codeOf Tryz.prog o_c5
theorem o_c7:fnOf Tryz.prog o_c5=some (o_c6,[.cell 2 true 1],6,false):=fno (by kernel_rfl)

abbrev o_c8:FuncId:=70
noncomputable def o_c9:C:=codeOf Tryz.prog o_c8
theorem o_ca:fnOf Tryz.prog o_c8=some (o_c9,[.t 4,.t 5],34,false):=fno (by kernel_rfl)

abbrev o_cb:FuncId:=71
noncomputable def o_cc:C:=codeOf Tryz.prog o_cb
theorem o_cd:fnOf Tryz.prog o_cb=some (o_cc,[.cell 2 true 1],22,false):=fno (by kernel_rfl)

abbrev o_ce:FuncId:=72
noncomputable def o_cf:C:=codeOf Tryz.prog o_ce
theorem o_cg:fnOf Tryz.prog o_ce=some (o_cf,[.t 4],8,false):=fno (by kernel_rfl)

abbrev o_ch:FuncId:=73
noncomputable def o_ci:C:=codeOf Tryz.prog o_ch
theorem o_cj:fnOf Tryz.prog o_ch=some (o_ci,[.t 4],125,false):=fno (by kernel_rfl)

abbrev o_ck:FuncId:=74
noncomputable def o_cl:C:=codeOf Tryz.prog o_ck
theorem o_cm:fnOf Tryz.prog o_ck=some (o_cl,[.cell 4 true 3],13,false):=fno (by kernel_rfl)

abbrev o_cn:FuncId:=75
noncomputable def o_co:C:=codeOf Tryz.prog o_cn
theorem o_cp:fnOf Tryz.prog o_cn=some (o_co,[.cell 2 true 3,.t 3],20,false):=fno (by kernel_rfl)

abbrev o_cq:FuncId:=76
noncomputable def o_cr:C:=codeOf Tryz.prog o_cq
theorem o_cs:fnOf Tryz.prog o_cq=some (o_cr,[.t 2],50,false):=fno (by kernel_rfl)

abbrev o_ct:FuncId:=77
noncomputable def o_cu:C:=codeOf Tryz.prog o_ct
theorem o_cv:fnOf Tryz.prog o_ct=some (o_cu,[.t 3],7,false):=fno (by kernel_rfl)

abbrev o_cw:FuncId:=78
noncomputable def o_cx:C:=codeOf Tryz.prog o_cw
theorem o_cy:fnOf Tryz.prog o_cw=some (o_cx,[.t 4],28,false):=fno (by kernel_rfl)

abbrev o_cz:FuncId:=79
noncomputable def o_d0:C:=codeOf Tryz.prog o_cz
theorem o_d1:fnOf Tryz.prog o_cz=some (o_d0,[.t 2],20,false):=fno (by kernel_rfl)

abbrev o_d2:FuncId:=81
noncomputable def o_d3:C:=codeOf Tryz.prog o_d2
theorem o_d4:fnOf Tryz.prog o_d2=some (o_d3,[.t 2],8,false):=fno (by kernel_rfl)

abbrev o_d5:FuncId:=82
noncomputable def o_d6:C:=codeOf Tryz.prog o_d5
theorem o_d7:fnOf Tryz.prog o_d5=some (o_d6,[.t 2],18,false):=fno (by kernel_rfl)

abbrev o_d8:FuncId:=83
noncomputable def o_d9:C:=codeOf Tryz.prog o_d8
theorem o_da:fnOf Tryz.prog o_d8=some (o_d9,[.t 4],20,false):=fno (by kernel_rfl)

abbrev o_db:FuncId:=84
noncomputable def o_dc:C:=codeOf Tryz.prog o_db
theorem o_dd:fnOf Tryz.prog o_db=some (o_dc,[.t 2],4,false):=fno (by kernel_rfl)

abbrev o_de:FuncId:=85
noncomputable def o_df:C:=codeOf Tryz.prog o_de
theorem o_dg:fnOf Tryz.prog o_de=some (o_df,[.t 2],21,false):=fno (by kernel_rfl)

abbrev o_dh:FuncId:=86
noncomputable def o_di:C:=codeOf Tryz.prog o_dh
theorem o_dj:fnOf Tryz.prog o_dh=some (o_di,[.t 2],39,false):=fno (by kernel_rfl)

abbrev o_dk:FuncId:=87
noncomputable def o_dl:C:=codeOf Tryz.prog o_dk
theorem o_dm:fnOf Tryz.prog o_dk=some (o_dl,[.t 4],19,false):=fno (by kernel_rfl)

abbrev o_dn:FuncId:=88
noncomputable def o_do:C:=codeOf Tryz.prog o_dn
theorem o_dp:fnOf Tryz.prog o_dn=some (o_do,[.t 4],27,false):=fno (by kernel_rfl)

abbrev o_dq:FuncId:=89
noncomputable def o_dr:C:=codeOf Tryz.prog o_dq
theorem o_ds:fnOf Tryz.prog o_dq=some (o_dr,[.cell 4 true 3,.t 5],19,false):=fno (by kernel_rfl)

abbrev o_dt:FuncId:=90
noncomputable def o_du:C:=codeOf Tryz.prog o_dt
theorem o_dv:fnOf Tryz.prog o_dt=some (o_du,[.t 3],13,false):=fno (by kernel_rfl)

abbrev o_dw:FuncId:=91
noncomputable def o_dx:C:=codeOf Tryz.prog o_dw
theorem o_dy:fnOf Tryz.prog o_dw=some (o_dx,[.cell 4 true 1],23,false):=fno (by kernel_rfl)

abbrev o_dz:FuncId:=92
noncomputable def o_e0:C:=codeOf Tryz.prog o_dz
theorem o_e1:fnOf Tryz.prog o_dz=some (o_e0,[.cell 2 true 1],5,false):=fno (by kernel_rfl)

abbrev o_e2:FuncId:=93
noncomputable def o_e3:C:=codeOf Tryz.prog o_e2
theorem o_e4:fnOf Tryz.prog o_e2=some (o_e3,[.cell 4 true 1,.cell 5 true 1,.t 6],49,false):=fno (by kernel_rfl)

abbrev o_e5:FuncId:=94
noncomputable def o_e6:C:=codeOf Tryz.prog o_e5
theorem o_e7:fnOf Tryz.prog o_e5=some (o_e6,[.cell 4 true 1,.t 5],51,false):=fno (by kernel_rfl)

abbrev o_e8:FuncId:=95
noncomputable def o_e9:C:=codeOf Tryz.prog o_e8
theorem o_ea:fnOf Tryz.prog o_e8=some (o_e9,[.t 2],5,false):=fno (by kernel_rfl)

abbrev o_eb:FuncId:=96
noncomputable def o_ec:C:=codeOf Tryz.prog o_eb
theorem o_ed:fnOf Tryz.prog o_eb=some (o_ec,[.t 4,.t 5],51,false):=fno (by kernel_rfl)

abbrev o_ee:FuncId:=98
noncomputable def o_ef:C:=codeOf Tryz.prog o_ee
theorem o_eg:fnOf Tryz.prog o_ee=some (o_ef,[.t 2],8,false):=fno (by kernel_rfl)

abbrev o_eh:FuncId:=99
noncomputable def o_ei:C:=codeOf Tryz.prog o_eh
theorem o_ej:fnOf Tryz.prog o_eh=some (o_ei,[.t 6,.t 7],135,false):=fno (by kernel_rfl)

abbrev o_ek:FuncId:=100
noncomputable def o_el:C:=codeOf Tryz.prog o_ek
theorem o_em:fnOf Tryz.prog o_ek=some (o_el,[.t 4],32,false):=fno (by kernel_rfl)

abbrev o_en:FuncId:=101
noncomputable def o_eo:C:=codeOf Tryz.prog o_en
theorem o_ep:fnOf Tryz.prog o_en=some (o_eo,[.t 4,.t 5],30,false):=fno (by kernel_rfl)

abbrev o_eq:FuncId:=102
noncomputable def o_er:C:=codeOf Tryz.prog o_eq
theorem o_es:fnOf Tryz.prog o_eq=some (o_er,[.t 4],8,false):=fno (by kernel_rfl)

abbrev o_et:FuncId:=107
noncomputable def o_eu:C:=codeOf Tryz.prog o_et
theorem o_ev:fnOf Tryz.prog o_et=some (o_eu,[.cell 2 true 2],9,false):=fno (by kernel_rfl)

abbrev o_ew:FuncId:=108
noncomputable def o_ex:C:=codeOf Tryz.prog o_ew
theorem o_ey:fnOf Tryz.prog o_ew=some (o_ex,[.cell 4 true 1,.t 5],23,false):=fno (by kernel_rfl)

abbrev o_ez:FuncId:=109
noncomputable def o_f0:C:=codeOf Tryz.prog o_ez
theorem o_f1:fnOf Tryz.prog o_ez=some (o_f0,[.cell 2 true 3],6,false):=fno (by kernel_rfl)

abbrev o_f2:FuncId:=119
noncomputable def o_f3:C:=codeOf Tryz.prog o_f2
theorem o_f4:fnOf Tryz.prog o_f2=some (o_f3,[.t 2],25,false):=fno (by kernel_rfl)

abbrev o_f5:FuncId:=120
noncomputable def o_f6:C:=codeOf Tryz.prog o_f5
theorem o_f7:fnOf Tryz.prog o_f5=some (o_f6,[.t 2],6,false):=fno (by kernel_rfl)

abbrev o_f8:FuncId:=121
noncomputable def o_f9:C:=codeOf Tryz.prog o_f8
theorem o_fa:fnOf Tryz.prog o_f8=some (o_f9,[.cell 4 true 3,.t 5],21,false):=fno (by kernel_rfl)

abbrev o_fb:FuncId:=122
noncomputable def o_fc:C:=codeOf Tryz.prog o_fb
theorem o_fd:fnOf Tryz.prog o_fb=some (o_fc,[.cell 4 true 1,.cell 5 true 1,.t 6],65,false):=fno (by kernel_rfl)

abbrev o_fe:FuncId:=124
noncomputable def o_ff:C:=codeOf Tryz.prog o_fe
theorem o_fg:fnOf Tryz.prog o_fe=some (o_ff,[.t 2],6,false):=fno (by kernel_rfl)

abbrev o_fh:FuncId:=125
noncomputable def o_fi:C:=codeOf Tryz.prog o_fh
theorem o_fj:fnOf Tryz.prog o_fh=some (o_fi,[.t 2],15,false):=fno (by kernel_rfl)

abbrev o_fk:FuncId:=126
noncomputable def o_fl:C:=codeOf Tryz.prog o_fk
theorem o_fm:fnOf Tryz.prog o_fk=some (o_fl,[.t 2],15,false):=fno (by kernel_rfl)

abbrev o_fn:FuncId:=127
noncomputable def o_fo:C:=codeOf Tryz.prog o_fn
theorem o_fp:fnOf Tryz.prog o_fn=some (o_fo,[],167,false):=fno (by kernel_rfl)

abbrev o_fq:FuncId:=130
noncomputable def o_fr:C:=codeOf Tryz.prog o_fq
theorem o_fs:fnOf Tryz.prog o_fq=some (o_fr,[.t 4],18,false):=fno (by kernel_rfl)

abbrev o_ft:FuncId:=133
noncomputable def o_fu:C:=codeOf Tryz.prog o_ft
theorem o_fv:fnOf Tryz.prog o_ft=some (o_fu,[.t 4],38,false):=fno (by kernel_rfl)

abbrev o_fw:FuncId:=139
noncomputable def o_fx:C:=codeOf Tryz.prog o_fw
theorem o_fy:fnOf Tryz.prog o_fw=some (o_fx,[.t 4],87,false):=fno (by kernel_rfl)

abbrev o_fz:FuncId:=140
noncomputable def o_g0:C:=codeOf Tryz.prog o_fz
theorem o_g1:fnOf Tryz.prog o_fz=some (o_g0,[.cell 4 true 1],59,false):=fno (by kernel_rfl)

abbrev o_g2:FuncId:=141
noncomputable def o_g3:C:=codeOf Tryz.prog o_g2
theorem o_g4:fnOf Tryz.prog o_g2=some (o_g3,[.t 2],6,false):=fno (by kernel_rfl)

abbrev o_g5:FuncId:=142
noncomputable def o_g6:C:=codeOf Tryz.prog o_g5
theorem o_g7:fnOf Tryz.prog o_g5=some (o_g6,[.t 2],4,false):=fno (by kernel_rfl)

abbrev o_g8:FuncId:=148
noncomputable def o_g9:C:=codeOf Tryz.prog o_g8
theorem o_ga:fnOf Tryz.prog o_g8=some (o_g9,[.t 6],68,false):=fno (by kernel_rfl)

abbrev o_gb:FuncId:=168
noncomputable def o_gc:C:=codeOf Tryz.prog o_gb
theorem o_gd:fnOf Tryz.prog o_gb=some (o_gc,[.t 2],20,false):=fno (by kernel_rfl)

abbrev o_ge:FuncId:=171
noncomputable def o_gf:C:=codeOf Tryz.prog o_ge
theorem o_gg:fnOf Tryz.prog o_ge=some (o_gf,[.cell 4 true 3,.t 5],11,false):=fno (by kernel_rfl)

abbrev o_gh:FuncId:=172
noncomputable def o_gi:C:=codeOf Tryz.prog o_gh
theorem o_gj:fnOf Tryz.prog o_gh=some (o_gi,[.t 2],5,false):=fno (by kernel_rfl)

abbrev o_gk:FuncId:=176
noncomputable def o_gl:C:=codeOf Tryz.prog o_gk
theorem o_gm:fnOf Tryz.prog o_gk=some (o_gl,[.cell 4 true 3,.t 5],29,false):=fno (by kernel_rfl)

abbrev o_gn:FuncId:=177
noncomputable def o_go:C:=codeOf Tryz.prog o_gn
theorem o_gp:fnOf Tryz.prog o_gn=some (o_go,[.t 2],9,false):=fno (by kernel_rfl)

abbrev o_gq:FuncId:=178
noncomputable def o_gr:C:=codeOf Tryz.prog o_gq
theorem o_gs:fnOf Tryz.prog o_gq=some (o_gr,[.t 4],23,false):=fno (by kernel_rfl)

abbrev o_gt:FuncId:=179
noncomputable def o_gu:C:=codeOf Tryz.prog o_gt
theorem o_gv:fnOf Tryz.prog o_gt=some (o_gu,[.cell 4 true 3,.t 5],13,false):=fno (by kernel_rfl)

abbrev o_gw:FuncId:=180
noncomputable def o_gx:C:=codeOf Tryz.prog o_gw
theorem o_gy:fnOf Tryz.prog o_gw=some (o_gx,[.cell 4 true 3,.t 5],44,false):=fno (by kernel_rfl)

abbrev o_gz:FuncId:=181
noncomputable def o_h0:C:=codeOf Tryz.prog o_gz
theorem o_h1:fnOf Tryz.prog o_gz=some (o_h0,[.cell 4 true 1,.t 5],44,false):=fno (by kernel_rfl)

abbrev o_h2:FuncId:=183
noncomputable def o_h3:C:=codeOf Tryz.prog o_h2
theorem o_h4:fnOf Tryz.prog o_h2=some (o_h3,[.cell 4 true 3,.t 5],11,false):=fno (by kernel_rfl)

abbrev o_h5:FuncId:=184
noncomputable def o_h6:C:=codeOf Tryz.prog o_h5
theorem o_h7:fnOf Tryz.prog o_h5=some (o_h6,[.t 2],5,false):=fno (by kernel_rfl)

abbrev o_h8:FuncId:=188
noncomputable def o_h9:C:=codeOf Tryz.prog o_h8
theorem o_ha:fnOf Tryz.prog o_h8=some (o_h9,[.cell 4 true 3,.t 5],27,false):=fno (by kernel_rfl)

abbrev o_hb:FuncId:=189
noncomputable def o_hc:C:=codeOf Tryz.prog o_hb
theorem o_hd:fnOf Tryz.prog o_hb=some (o_hc,[.t 2],9,false):=fno (by kernel_rfl)

abbrev o_he:FuncId:=190
noncomputable def o_hf:C:=codeOf Tryz.prog o_he
theorem o_hg:fnOf Tryz.prog o_he=some (o_hf,[.t 4],23,false):=fno (by kernel_rfl)

abbrev o_hh:FuncId:=191
noncomputable def o_hi:C:=codeOf Tryz.prog o_hh
theorem o_hj:fnOf Tryz.prog o_hh=some (o_hi,[.t 4,.t 5],14,false):=fno (by kernel_rfl)

abbrev o_hk:FuncId:=193
noncomputable def o_hl:C:=codeOf Tryz.prog o_hk
theorem o_hm:fnOf Tryz.prog o_hk=some (o_hl,[.cell 4 true 3,.t 5],11,false):=fno (by kernel_rfl)

abbrev o_hn:FuncId:=194
noncomputable def o_ho:C:=codeOf Tryz.prog o_hn
theorem o_hp:fnOf Tryz.prog o_hn=some (o_ho,[.t 2],5,false):=fno (by kernel_rfl)

abbrev o_hq:FuncId:=198
noncomputable def o_hr:C:=codeOf Tryz.prog o_hq
theorem o_hs:fnOf Tryz.prog o_hq=some (o_hr,[.cell 4 true 3,.t 5],23,false):=fno (by kernel_rfl)

abbrev o_ht:FuncId:=199
noncomputable def o_hu:C:=codeOf Tryz.prog o_ht
theorem o_hv:fnOf Tryz.prog o_ht=some (o_hu,[.t 2],9,false):=fno (by kernel_rfl)

abbrev o_hw:FuncId:=200
def o_hx:C:=(.seq (.reg false [oo_ 3 (.box 3 (.t 1)) [],oo_ 4 (.new 212 [(.int .i64 0),(.int .i64 0),.nilsl,.nilsl]) [],oo_ 5 (.mv (.d (.int .i64 0))) []]) (.seq (.block 0 (.seq (.reg false [om_ 10 0 [],oo_ 11 (.call 199 [(.t 10)])
 [0],oo_ 12 (.un .not (.t 11)) [1],om_ 9 12 [2,1]]) (.cond (.t 9) (.seq (.reg false [oo_ 13 (.build [(.int .i64 0),(.int .i64 0),.nilsl,.nilsl] []) [],on_ (.store 4 (.t 4) (.t 13)) [0,0],oo_ 5 (.mv (.d (.int .i64 10)))
 [1,0,1]]) .ret) (.seq (.reg false [oo_ 15 (.load false 1 (.t 3)) [],oo_ 16 (.bin .lss (.t 15) (.d (.int .i64 0))) [0],om_ 17 16 [1],og_ 18 (.load false 1 (.t 3)) 17 false [2],og_ 19 (.bin .gtr (.t 18) (.d (.int .i64
 1023))) 17 false [3,2],oo_ 20 (.pick (.t 17) (.d (.bool true)) (.t 19)) [2,4],om_ 14 20 [5,2]]) (.cond (.t 14) (.seq (.reg false [oo_ 21 (.build [(.int .i64 0),(.int .i64 0),.nilsl,.nilsl] []) [],on_ (.store 4 (.t 4)
 (.t 21)) [0,0],oo_ 5 (.mv (.d (.int .i64 2))) [1,0,1]]) .ret) .skip))))) (.seq (.reg false [oo_ 6 (.new 212 [(.int .i64 0),(.int .i64 0),.nilsl,.nilsl]) []]) (.seq (.seq (.reg false [om_ 22 0 [],oo_ 23 (.call 201 [(.t
 22)]) [0]]) (.block 1 .bad)) (.seq (.reg false [oo_ 30 (.load true 4 (.t 6)) [],on_ (.store 4 (.t 4) (.t 30)) [0,0],oo_ 5 (.mv (.d (.int .i64 0))) [1,0,1]]) .ret)))))
theorem o_hy:fnOf Tryz.prog o_hw=some (o_hx,[.cell 4 true 4,.t 5],31,false):=by kernel_rfl

abbrev n_yu_walk:FuncId:=201
noncomputable def c_yu_walk:C:=codeOf Tryz.prog n_yu_walk
theorem r_yu_walk:fnOf Tryz.prog n_yu_walk=some (c_yu_walk,[.t 2],4,false):=fno (by kernel_rfl)

abbrev o_hz:FuncId:=202
def o_i0:C:=(.seq (.reg false [oo_ 5 (.load false 1 (.t 1)) [],oo_ 6 (.bin .mul (.d (.int .i64 2)) (.t 5)) [0],oo_ 7 (.bin .shl (.d (.int .u64 1)) (.t 6)) [1],oo_ 8 (.bsl 105 1 1 [(.int .u64 0)] [(0,1,(.t 7))]) [2],oo_ 9 (.call 69
 [(.t 8)]) [3],oo_ 10 (.build [(.int .i64 0),(.int .i64 0),.nilsl,.nilsl] [(3,1,(.t 9))]) [4],oo_ 3 (.new 212 [(.int .i64 0),(.int .i64 0),.nilsl,.nilsl]) [],on_ (.store 4 (.t 3) (.t 10)) [6,5,4,0,1,2,3,4,5,6]]) (.seq
 (.reg false [oo_ 4 (.mv (.d (.int .i64 0))) []]) (.block 0 (.loop (.seq (.seq (.reg false [om_ 11 4 [],oo_ 12 (.bin .leq (.t 11) (.d (.int .i64 1023))) [0]]) (.cond (.t 12) .skip (.exit 0))) (.seq (.block 1 (.seq (.seq
 (.reg false [om_ 15 0 [],om_ 16 4 [],oo_ 17 (.load true 4 (.t 3)) [],oo_ 18 (.callv (.t 15) [(.t 16),(.t 17)]) [0,1,2],oo_ 19 (.un .not (.t 18)) [3]]) (.cond (.t 19) .ret .skip)) (.reg false [oo_ 20 (.load true 4 (.t
 3)) [],oo_ 21 (.load false 1 (.t 1)) [],oo_ 22 (.call 203 [(.t 20),(.t 21)]) [0,1],on_ (.store 4 (.t 3) (.t 22)) [2,2,0,1,2]]))) (.reg false [om_ 13 4 [],oo_ 14 (.bin .add (.t 13) (.d (.int .i64 1))) [0],om_ 4 14
 [1,0,1]])))))))
abbrev o_i1:FuncId:=203
noncomputable def o_i2:C:=codeOf Tryz.prog o_i1
theorem o_i3:fnOf Tryz.prog o_i1=some (o_i2,[.cell 4 true 4],41,false):=fno (by kernel_rfl)

abbrev o_i4:FuncId:=204
noncomputable def o_i5:C:=codeOf Tryz.prog o_i4
theorem o_i6:fnOf Tryz.prog o_i4=some (o_i5,[.cell 4 true 1],28,false):=fno (by kernel_rfl)

abbrev o_i7:FuncId:=205
noncomputable def o_i8:C:=codeOf Tryz.prog o_i7
theorem o_i9:fnOf Tryz.prog o_i7=some (o_i8,[.t 4],12,false):=fno (by kernel_rfl)

abbrev o_ia:FuncId:=97
theorem o_ib:Tryz.prog.funcs[o_ia]?=some Tryz.f97:=Tryz.func97
abbrev o_ic:FuncId:=123
theorem o_id:Tryz.prog.funcs[o_ic]?=some Tryz.f123:=Tryz.func123
end
section
def wval:List Nat→Nat
 | []=>0
 | x::l=>x+18446744073709551616*wval l
def small (ws:List Nat):Prop:=∀x∈ws,x<18446744073709551616

theorem o_ie:∀(a b:List Nat),wval (a++b)=wval a+18446744073709551616^a.length*wval b:=by
 intro a
 induction a with
 | nil=>intro b;simp [wval]
 | cons x a ih=>intro b;simp only [List.cons_append,wval,List.length_cons];rw [ih,Nat.pow_succ,Nat.mul_add,←Nat.mul_assoc,Nat.mul_comm 18446744073709551616 (18446744073709551616^a.length)];omega
theorem o_if:∀n,wval (List.replicate n 0)=0:=by
 intro n
 induction n with
 | zero=>rfl
 | succ n ih=>rw [List.replicate_succ,wval,ih]
theorem o_ig:∀{ws:List Nat},small ws→wval ws<18446744073709551616^ws.length:=by
 intro ws
 induction ws with
 | nil=>intro _;simp [wval]
 | cons x l ih =>
  intro h
  have h1:=h x (by simp)
  have h2:=ih (fun y hy=>h y (by simp [hy]))
  rw [wval,List.length_cons,Nat.pow_succ]
  omega

def trimN (ws:List Nat):Nat→Nat
 | 0=>0
 | n+1=>if ws.getD n 0=0 then trimN ws n else n+1
theorem o_ih (ws:List Nat) (n:Nat) (h:n<ws.length):ws.take (n+1)=ws.take n++[ws.getD n 0]:=by
 rw [List.take_add_one,List.getElem?_eq_getElem h]
 simp [List.getD,List.getElem?_eq_getElem h]
theorem o_ii (ws:List Nat):∀n,n≤ws.length→wval (ws.take (trimN ws n))=wval (ws.take n):=by
 intro n
 induction n with
 | zero=>intro _;rfl
 | succ n ih =>
  intro h
  unfold trimN
  split
  ·rename_i h0
   rw [ih (by omega),o_ih _ _ (by omega),o_ie,h0]
   simp [wval]
  ·rfl
def top1 (ws:List Nat):Prop:=∀k,ws.length=k+1→ws.getD k 0≠0
theorem o_ij (ws:List Nat):∀n,n≤ws.length→top1 (ws.take (trimN ws n)):=by
 intro n
 induction n with
 | zero=>intro _ k hk;simp [trimN] at hk
 | succ n ih =>
  intro h
  unfold trimN
  split
  ·exact ih (by omega)
  ·rename_i h0
   intro k hk
   rw [List.length_take,Nat.min_eq_left h] at hk
   obtain rfl:n=k:=by omega
   have e:(ws.take (n+1)).getD n 0=ws.getD n 0:=by simp [List.getD]
   rw [e]
   exact h0

theorem small.take {ws:List Nat} (h:small ws) (n:Nat):small (ws.take n):=fun x hx=>h x (List.mem_of_mem_take hx)

theorem o_ik {ws:List Nat} (h:small ws) (ht:top1 ws) (h0:wval ws=0):ws=[]:=by
 rcases ws.eq_nil_or_concat with rfl | ⟨l,x,rfl⟩
 ·rfl
 ·exfalso
  have:=ht l.length (by simp)
  simp at this
  simp [o_ie,wval] at h0
  rcases Nat.mul_eq_zero.1 h0.2 with h | h
  ·exact absurd h (Nat.pos_iff_ne_zero.1 (Nat.pow_pos (by decide)))
  ·exact this h

theorem o_il:∀{a b:List Nat},small a→small b→top1 a→top1 b→wval a=wval b→a=b:=by
 intro a
 induction a with
 | nil=>intro b _ hb _ tb h;exact (o_ik hb tb h.symm).symm
 | cons x a ih =>
  intro b ha hb ta tb h
  cases b with
  | nil=>exact absurd (o_ik ha ta h) (by simp)
  | cons y b =>
   have h1:=ha x (by simp)
   have h2:=hb y (by simp)
   simp only [wval] at h
   have e:x=y:=by omega
   subst e
   have e2:wval a=wval b:=by omega
   have e3:a=b:=ih (fun z hz=>ha z (by simp [hz])) (fun z hz=>hb z (by simp [hz])) (fun k hk=>by have:=ta (k+1) (by simp [hk]);simpa using this) (fun k hk=>by have:=tb (k+1) (by simp [hk]);simpa using this) e2
   rw [e3]

def movedL (k:Nat):Nat→List Nat→List Nat
 | c,[]=>[c]
 | c,x::l=>((x*2^k)%18446744073709551616+c)::movedL k (x*2^k/18446744073709551616) l
theorem o_im (k:Nat):∀(l:List Nat) (c:Nat),(movedL k c l).length=l.length+1:=by
 intro l
 induction l with
 | nil=>intro c;rfl
 | cons x l ih=>intro c;simp [movedL,ih]
theorem o_in (k:Nat):∀(l:List Nat) (c:Nat),wval (movedL k c l)=wval l*2^k+c:=by
 intro l
 induction l with
 | nil=>intro c;simp [movedL,wval]
 | cons x l ih =>
  intro c
  rw [movedL,wval,ih,wval]
  have:=Nat.div_add_mod (x*2^k) 18446744073709551616
  rw [Nat.add_mul,Nat.mul_add,Nat.mul_assoc]
  omega
theorem o_io {k:Nat} (hk:k<64):∀{l:List Nat} {c:Nat},small l→c<2^k→small (movedL k c l):=by
 have p64:(18446744073709551616:Nat)=2^(64-k)*2^k:=by rw [←Nat.pow_add,show 64-k+k=64 by omega]
 intro l
 induction l with
 | nil =>
  intro c _ hc x hx
  simp [movedL] at hx;subst hx
  exact Nat.lt_trans hc (by rw [show (18446744073709551616:Nat)=2^64 by decide];exact Nat.pow_lt_pow_right (by decide) hk)
 | cons y l ih =>
  intro c h hc x hx
  simp only [movedL,List.mem_cons] at hx
  have hy:=h y (by simp)
  rcases hx with rfl | hx
  ·rw [p64,Nat.mul_mod_mul_right]
   have:y%2^(64-k)<2^(64-k):=Nat.mod_lt _ (Nat.pow_pos (by decide))
   calc _<y%2^(64-k)*2^k+2^k:=by omega
    _=(y%2^(64-k)+1)*2^k:=by rw [Nat.add_mul,Nat.one_mul]
    _≤_:=Nat.mul_le_mul_right _ this
  ·refine ih (fun z hz=>h z (by simp [hz])) ?_ x hx
   apply Nat.div_lt_of_lt_mul
   exact Nat.mul_lt_mul_of_pos_right hy (Nat.pow_pos (by decide))

def movedB (k:Nat):Nat→List Nat→List Nat
 | _,[]=>[]
 | c,x::l=>((x*2^k)%18446744073709551616+c)::movedB k (x*2^k/18446744073709551616) l
def movedC (k:Nat):Nat→List Nat→Nat
 | c,[]=>c
 | _,x::l=>movedC k (x*2^k/18446744073709551616) l
theorem o_ip (k:Nat):∀(l:List Nat) (c:Nat),movedL k c l=movedB k c l++[movedC k c l]:=by
 intro l
 induction l with
 | nil=>intro c;rfl
 | cons x l ih=>intro c;simp [movedL,movedB,movedC,ih]
theorem o_iq (k:Nat) (l:List Nat) (c:Nat):(movedB k c l).length=l.length:=by
 have h:=o_im k l c
 rw [o_ip,List.length_append] at h
 simpa using h
theorem o_ir (k:Nat) (x:Nat):∀(l:List Nat) (c:Nat),movedB k c (l++[x])=movedB k c l++[(x*2^k)%18446744073709551616+movedC k c l]:=by
 intro l
 induction l with
 | nil=>intro c;rfl
 | cons y l ih=>intro c;simp [movedB,movedC,ih]
theorem o_is (k:Nat) (x:Nat):∀(l:List Nat) (c:Nat),movedC k c (l++[x])=x*2^k/18446744073709551616:=by
 intro l
 induction l with
 | nil=>intro c;rfl
 | cons y l ih=>intro c;simp [movedC,ih]
theorem o_it {k x:Nat} (hx:x<18446744073709551616):x*2^k/18446744073709551616<2^k:=by
 apply Nat.div_lt_of_lt_mul
 exact Nat.mul_lt_mul_of_pos_right hx (Nat.pow_pos (by decide))
theorem o_iu {k:Nat}:∀{l:List Nat} {c:Nat},small l→c<2^k→movedC k c l<2^k:=by
 intro l
 induction l with
 | nil=>intro c _ hc;exact hc
 | cons x l ih=>intro c h hc;exact ih (fun z hz=>h z (by simp [hz])) (o_it (h x (by simp)))
theorem o_iv {k x c:Nat} (hk:k<64) (hc:c<2^k):c ||| (x*2^k)%18446744073709551616=(x*2^k)%18446744073709551616+c:=by
 have p64:(18446744073709551616:Nat)=2^(64-k)*2^k:=by rw [←Nat.pow_add,show 64-k+k=64 by omega]
 rw [p64,Nat.mul_mod_mul_right,Nat.or_comm,Nat.mul_comm]
 exact (Nat.two_pow_add_eq_or_of_lt hc _).symm
theorem o_iw {k x:Nat} (hk:k≤64):x*2^k/18446744073709551616=x/2^(64-k):=by
 have p64:(18446744073709551616:Nat)=2^(64-k)*2^k:=by rw [←Nat.pow_add,show 64-k+k=64 by omega]
 rw [p64,Nat.mul_div_mul_right _ _ (Nat.pow_pos (by decide))]

theorem o_ix:∀{ws:List Nat} {m:Nat},top1 ws→wval ws<18446744073709551616^m→ws.length≤m:=by
 intro ws
 induction ws with
 | nil=>intro m _ _;exact Nat.zero_le _
 | cons x l ih =>
  intro m ht h
  cases m with
  | zero =>
   exfalso
   rw [Nat.pow_zero] at h
   rw [wval] at h
   cases l with
   | nil =>
    have:=ht 0 rfl
    simp [wval] at this h
    omega
   | cons y l =>
    have hw:wval (y::l)=0:=by omega
    have:(y::l).length≤0:=ih (m:=0) (fun k hk=>by have:=ht (k+1) (by simp [hk]);simpa using this) (by rw [hw];decide)
    simp at this
  | succ m =>
   rw [List.length_cons]
   have:l.length≤m:=by
    cases l with
    | nil=>exact Nat.zero_le _
    | cons y l =>
     refine ih (fun k hk=>by have:=ht (k+1) (by simp [hk]);simpa using this) ?_
     rw [wval,Nat.pow_succ] at h
     omega
   omega

theorem o_iy (f:Nat→Nat) (n:Nat):wval ((List.range (n+1)).map f)=wval ((List.range n).map f)+18446744073709551616^n*f n:=by
 rw [List.range_succ,List.map_append,o_ie]
 simp [wval]
theorem o_iz (l:List Nat) (n:Nat):wval (l.take (n+1))=wval (l.take n)+18446744073709551616^n*l.getD n 0:=by
 by_cases h:n<l.length
 ·rw [o_ih _ _ h,o_ie,List.length_take,Nat.min_eq_left (Nat.le_of_lt h)]
  simp [wval]
 ·rw [List.take_of_length_le (by omega),List.take_of_length_le (by omega)]
  simp [List.getD,List.getElem?_eq_none (show l.length≤n by omega)]

def carryW (a b:List Nat):Nat→Nat
 | 0=>0
 | n+1=>(a.getD n 0+b.getD n 0+carryW a b n)/18446744073709551616
def addW (a b:List Nat) (n:Nat):Nat:=(a.getD n 0+b.getD n 0+carryW a b n)%18446744073709551616

theorem small.getD {l:List Nat} (h:small l) (n:Nat):l.getD n 0<18446744073709551616:=by
 by_cases hn:n<l.length
 ·rw [List.getD,List.getElem?_eq_getElem hn];exact h _ (List.getElem_mem hn)
 ·simp [List.getD,List.getElem?_eq_none (show l.length≤n by omega)]
theorem o_j0 {a b:List Nat} (ha:small a) (hb:small b):∀n,carryW a b n≤1:=by
 intro n
 induction n with
 | zero=>exact Nat.zero_le _
 | succ n ih =>
  have h1:=ha.getD n
  have h2:=hb.getD n
  simp only [carryW]
  omega
theorem o_j1 (a b:List Nat):∀n,wval ((List.range n).map (addW a b))+18446744073709551616^n*carryW a b n=wval (a.take n)+wval (b.take n):=by
 intro n
 induction n with
 | zero=>simp [wval,carryW]
 | succ n ih =>
  rw [o_iy,o_iz,o_iz]
  have:=Nat.div_add_mod (a.getD n 0+b.getD n 0+carryW a b n) 18446744073709551616
  simp only [addW,carryW]
  rw [Nat.pow_succ]
  generalize 18446744073709551616^n=P at *
  generalize (a.getD n 0+b.getD n 0+carryW a b n)/18446744073709551616=q at *
  generalize (a.getD n 0+b.getD n 0+carryW a b n)%18446744073709551616=r at *
  have e:P*(18446744073709551616*q+r)=P*a.getD n 0+P*b.getD n 0+P*carryW a b n:=by rw [this];simp [Nat.mul_add]
  rw [Nat.mul_add,←Nat.mul_assoc] at e
  omega

def borrowW (a b:List Nat):Nat→Nat
 | 0=>0
 | n+1=>if a.getD n 0<b.getD n 0+borrowW a b n then 1 else 0
def subW (a b:List Nat) (n:Nat):Nat:=(a.getD n 0+18446744073709551616-b.getD n 0-borrowW a b n)%18446744073709551616
theorem o_j2 (a b:List Nat):∀n,borrowW a b n≤1:=by
 intro n
 cases n with
 | zero=>exact Nat.zero_le _
 | succ n=>simp only [borrowW];split<;>omega
theorem o_j3 {a b:List Nat} (ha:small a) (hb:small b):∀n,wval ((List.range n).map (subW a b))+wval (b.take n)=wval (a.take n)+18446744073709551616^n*borrowW a b n:=by
 intro n
 induction n with
 | zero=>simp [wval,borrowW]
 | succ n ih =>
  rw [o_iy,o_iz,o_iz]
  have h1:=ha.getD n
  have h2:=hb.getD n
  have h3:=o_j2 a b n
  have e:subW a b n+b.getD n 0+borrowW a b n=a.getD n 0+18446744073709551616*borrowW a b (n+1):=by
   simp only [subW,borrowW]
   split<;>omega
  rw [Nat.pow_succ,Nat.mul_assoc]
  generalize 18446744073709551616^n=P at *
  have e2:P*subW a b n+P*b.getD n 0+P*borrowW a b n=P*a.getD n 0+P*(18446744073709551616*borrowW a b (n+1)):=by rw [←Nat.mul_add,←Nat.mul_add,e,Nat.mul_add]
  omega
theorem o_j4 {f:Nat→Nat} (h:∀i,f i<18446744073709551616) (n:Nat):small ((List.range n).map f):=by
 intro x hx
 obtain ⟨i,_,rfl⟩:=List.mem_map.1 hx
 exact h i
theorem o_j5 (a b:List Nat) (i:Nat):addW a b i<18446744073709551616:=Nat.mod_lt _ (by decide)
theorem o_j6 (a b:List Nat) (i:Nat):subW a b i<18446744073709551616:=Nat.mod_lt _ (by decide)

theorem o_j7 {a b:List Nat} (ha:small a) (hb:top1 b) (h:a.length<b.length):wval a<wval b:=by
 refine Nat.lt_of_lt_of_le (o_ig ha) ?_
 apply Nat.le_of_not_lt
 intro hlt
 have:=o_ix hb hlt
 omega
def cmpN (a b:List Nat):Nat→Int
 | 0=>0
 | n+1=>if a.getD n 0<b.getD n 0 then -1 else if b.getD n 0<a.getD n 0 then 1 else cmpN a b n
theorem o_j8 {l:List Nat} (h:small l) (n:Nat):wval (l.take n)<18446744073709551616^n:=by
 have:=o_ig (h.take n)
 rw [List.length_take] at this
 exact Nat.lt_of_lt_of_le this (Nat.pow_le_pow_right (by decide) (Nat.min_le_left _ _))
theorem o_j9 {a b:List Nat} (ha:small a) (hb:small b):∀n,cmpN a b n=if wval (a.take n)<wval (b.take n) then -1 else if wval (b.take n)<wval (a.take n) then 1 else 0:=by
 intro n
 induction n with
 | zero=>simp [cmpN,wval]
 | succ n ih =>
  rw [o_iz,o_iz]
  have h1:=o_j8 ha n
  have h2:=o_j8 hb n
  simp only [cmpN]
  generalize 18446744073709551616^n=P at *
  generalize a.getD n 0=x at *
  generalize b.getD n 0=y at *
  by_cases hxy:x<y
  ·rw [if_pos hxy,if_pos]
   have:P*(x+1)≤P*y:=Nat.mul_le_mul_left _ hxy
   rw [Nat.mul_add] at this
   omega
  ·rw [if_neg hxy]
   by_cases hyx:y<x
   ·have:P*(y+1)≤P*x:=Nat.mul_le_mul_left _ hyx
    rw [Nat.mul_add] at this
    rw [if_pos hyx,if_neg (by omega),if_pos (by omega)]
   ·obtain rfl:x=y:=by omega
    rw [if_neg hyx,ih]
    simp only [Nat.add_lt_add_iff_right]
def cmpZ (m n:Nat):Int:=if m<n then -1 else if n<m then 1 else 0
end
section
open Go.RowKit
def W (ws:List Nat):D:=.sl ws.length (ws.map fun x:Nat=>.int .u64 x)

def wordsF:Nat→Nat→List Nat
 | 0,_=>[]
 | f+1,n=>if n=0 then [] else (n%18446744073709551616)::wordsF f (n/18446744073709551616)
def words (n:Nat):List Nat:=wordsF n n

theorem o_ja:∀(f n:Nat),n≤f→wval (wordsF f n)=n∧small (wordsF f n)∧top1 (wordsF f n)
 | 0,n,h=>by
  obtain rfl:n=0:=by omega
  exact ⟨rfl,by simp [small,wordsF],by intro k hk;simp [wordsF] at hk⟩
 | f+1,n,h=>by
  by_cases h0:n=0
  ·subst h0
   simp only [wordsF,if_true]
   exact ⟨rfl,by simp [small],by intro k hk;simp at hk⟩
  ·obtain ⟨h1,h2,h3⟩:=o_ja f (n/18446744073709551616) (by omega)
   simp only [wordsF,if_neg h0]
   refine ⟨by simp only [wval,h1];omega,fun x hx=>?_,fun k hk=>?_⟩
   ·rcases List.mem_cons.1 hx with rfl | hx
    ·omega
    ·exact h2 x hx
   ·cases hl:wordsF f (n/18446744073709551616) with
    | nil =>
     rw [hl] at h1 hk
     simp [wval] at h1 hk
     subst hk
     simp;omega
    | cons y r =>
     rw [hl] at hk h3
     simp at hk
     subst hk
     have:=h3 r.length rfl
     simpa using this
theorem o_jb (n:Nat):wval (words n)=n:=(o_ja n n (Nat.le_refl _)).1
theorem o_jc (n:Nat):small (words n):=(o_ja n n (Nat.le_refl _)).2.1
theorem o_jd (n:Nat):top1 (words n):=(o_ja n n (Nat.le_refl _)).2.2
theorem o_je {ws:List Nat} (h:small ws) (ht:top1 ws):words (wval ws)=ws:=o_il (o_jc _) h (o_jd _) ht (o_jb _)
theorem o_jf {n:Nat}:words n=[]↔n=0:=by
 constructor
 ·intro h;have:=o_jb n;rw [h] at this;exact this.symm
 ·rintro rfl;rfl

def natW (n:Nat):D:=W (words n)
theorem o_jg {ws:List Nat} (h:small ws) (ht:top1 ws):natW (wval ws)=W ws:=by rw [natW,o_je h ht]
theorem o_jh:natW 0 = .sl 0 []:=rfl
def size (n:Nat):Nat:=(words n).length

theorem o_ji (n:Nat) (l:List D) (hl:l.length=n) (hn:n≤4000000000):Eqn Tryz.prog o_ee [.d (.sl n l)] [] (.d (.sl n l)) []:=by
 refine Eqn.pure o_eg (o_5e _) ?_
 refine cc (c':=?z0) ?_ ?_
 case refine_1=>cbv<;>exact rfl
 rcases Nat.eq_zero_or_pos n with rfl | h0
 ·have:l=[]:=List.eq_nil_of_length_eq_zero hl
  subst this
  refine AW.empty 0 rfl ?_ ?_
  ·simp
   refine G0 ?_;try with_reducible exact tt
   refine AW.cond rfl (fun h=>?_) (fun h=>?_)
   ·refine G0 ?_;try with_reducible exact tt
    exact Sub1.nil
   ·simp at h
  ·simp
   refine G0 ?_;try with_reducible exact tt
   refine AW.cond rfl (fun h=>?_) (fun h=>?_)
   ·simp at h
   ·refine G0 ?_;try with_reducible exact tt
    exact Sub1.sl0
 ·refine G1 h0 ?_;try with_reducible exact tt
  refine AW.cond rfl (fun h=>?_) (fun h=>?_)
  ·simp at h
  ·refine G0 ?_;try with_reducible exact tt
   have h1:¬n=0:=by omega
   simp [h1,hl]
   refine need.of (by omega) ?_
   refine AW.freeze 0 1 ⟨105,l.map .d⟩ l (by simp) rfl ?_
   simp
   refine G0 ?_;try with_reducible exact tt
   have:l.take n=l:=List.take_of_length_le (by omega)
   simp [this]

theorem o_jj {ws:List Nat} {k:Nat} (h:k<ws.length):ws[k]=ws.getD k 0:=by simp [List.getD,h]

theorem o_jk (ws:List Nat) (hs:small ws) (hn:ws.length≤4000000000):Eqn Tryz.prog o_cb [.d (W ws)] [] (.d (.agg [natW (wval ws)])) []:=by
 refine Eqn.pure o_cd (o_5e _) ?_
 refine cc (c':=?z1) ?_ ?_
 case refine_1=>cbv<;>exact rfl
 try simp only [W]
 refine G0 ?_;try with_reducible exact tt
 refine AW.loopT (α:=Nat) 1 (fun m=>[(3,.d (.int .i64 (m:Int)))]) (fun _=>[]) (fun m=>m≤ws.length∧trimN ws m=trimN ws ws.length) (fun m=>m) ws.length ?_ ?_ ⟨Nat.le_refl _,rfl⟩ ?_ ?_ ?_
 ·simp
 ·simp
 ·simp
 ·simp
 rintro m ⟨hm,ht⟩
 simp
 have fin:∀k,k=trimN ws ws.length→W (ws.take k)=natW (wval ws):=by
  rintro k rfl
  have:=o_jg (hs.take (trimN ws ws.length)) (o_ij ws _ (Nat.le_refl _))
  rw [←this,o_ii _ _ (Nat.le_refl _),List.take_length]
 cases m with
 | zero =>
  refine G0 ?_;try with_reducible exact tt
  refine AW.cond rfl (fun h=>?_) (fun h=>?_)
  ·simp at h
  refine G0 ?_;try with_reducible exact tt
  refine Sub1.of ?_
  rw [←fin 0 ht]
  simp [W]
 | succ m =>
  have hm':m<ws.length:=hm
  have hp:(0:Int)<(m:Int)+1:=by omega
  have e:(m:Int)+1-1=m:=by omega
  have ew:IntKind.i64.wrap (m:Int)=m:=w64 (by omega) (by omega)
  refine G1 (fs hp (fs e (fs ew hm'))) ?_;try with_reducible exact tt
  refine AW.cond rfl (fun h=>?_) (fun h=>?_)
  ·simp at h
   refine G1 (fs hp (fs e ew)) ?_;try with_reducible exact tt
   refine ⟨m,⟨by omega,?_⟩,?_⟩
   ·rw [←ht,trimN,if_pos]
    rw [←o_jj hm'];omega
   ·simp
  ·simp at h
   refine G0 ?_;try with_reducible exact tt
   have hk:m+1=trimN ws ws.length:=by
    rw [←ht,trimN,if_neg]
    rw [←o_jj hm'];omega
   refine G0 ?_;try with_reducible exact tt
   refine Sub1.of ?_
   rw [←fin _ hk]
   simp [W]
   omega

theorem o_jl (ws:List Nat) (hs:small ws) (hn:ws.length≤4000000000):Eqn Tryz.prog o_c5 [.d (W ws)] [] (.d (.agg [natW (wval ws)])) []:=by
 refine Eqn.pure o_c7 (o_5e _) ?_
 refine cc (c':=?z2) ?_ ?_
 case refine_1=>cbv<;>exact rfl
 try simp only [W]
 refine G0 ?_;try with_reducible exact tt
 refine CallS.pu (o_ji _ (ws.map fun x:Nat=>.int .u64 x) (by simp) hn) (R0 ?_);try with_reducible exact tt
 refine CallS.pu (o_jk ws hs hn) (R0 ?_);try with_reducible exact tt

theorem o_jm (n:Nat):Eqn Tryz.prog o_bz [.d (.agg [natW n])] [] (.d (.bool (n==0))) []:=by
 refine Eqn.pure o_c1 (o_5e _) ?_
 refine cc (c':=?z3) ?_ ?_
 case refine_1=>cbv<;>exact rfl
 try simp only [natW,W]
 refine G0 ?_;try with_reducible exact tt
 refine Sub1.bool ?_
 rw [Bool.eq_iff_iff]
 simp [o_jf]

theorem o_jn {m n:Nat} (h:size m<size n):m<n:=by
 have:=o_j7 (o_jc m) (o_jd n) h
 rwa [o_jb,o_jb] at this

theorem o_jo (m n:Nat) (hm:size m≤1000000) (hn:size n≤1000000):Eqn Tryz.prog o_bt [.d (.agg [natW m]),.d (.agg [natW n])] [] (.d (.int .i64 (cmpZ m n))) []:=by
 refine Eqn.pure o_bv (o_5e _) ?_
 unfold size at hm hn
 have sa:=o_jc m
 have sb:=o_jc n
 refine cc (c':=?z4) ?_ ?_
 case refine_1=>cbv<;>exact rfl
 try simp only [natW,W]
 have hz:cmpZ m n=if (words m).length<(words n).length then -1 else if (words n).length<(words m).length then 1 else cmpN (words m) (words n) (words m).length:=by
  split
  ·rename_i h;rw [cmpZ,if_pos (o_jn h)]
  ·split
   ·rename_i h;have:=o_jn h;rw [cmpZ,if_neg (by omega),if_pos this]
   ·have:=o_j9 sa sb (words m).length
    rw [List.take_length,show (words m).length=(words n).length by omega,List.take_length,o_jb,o_jb] at this
    rw [show (words m).length=(words n).length by omega,this]
    rfl
 rw [hz]
 clear hz
 generalize words m=xs at *
 generalize words n=ys at *
 by_cases hl:xs.length=ys.length
 ·refine G1 hl ?_;try with_reducible exact tt
  refine AW.cond rfl (fun h=>?_) (fun h=>?_)
  ·simp [w64] at h
  refine G1 hl ?_;try with_reducible exact tt
  refine AW.loopT (α:=Nat) 2 (fun m=>[(6,.d (.int .i64 ((m:Int)-1)))]) (fun _=>[]) (fun m=>m≤ys.length∧cmpN xs ys m=cmpN xs ys ys.length) (fun m=>m) ys.length ?_ ?_ ⟨Nat.le_refl _,rfl⟩ ?_ ?_ ?_
  ·simp
  ·simp
  ·simp [hl]
  ·simp
  rintro m ⟨hm',hc⟩
  simp
  cases m with
  | zero =>
   refine G0 ?_;try with_reducible exact tt
   refine AW.cond rfl (fun h=>?_) (fun h=>?_)
   ·simp at h
   refine G0 ?_;try with_reducible exact tt
   refine Sub1.int ?_
   rw [←hc];rfl
  | succ m =>
   have h1:m<xs.length:=by omega
   have h2:m<ys.length:=hm'
   have e:(m:Int)+1-1=m:=by omega
   have ew:IntKind.i64.wrap ((m:Int)-1)=(m:Int)-1:=w64 (by omega) (by omega)
   rw [cmpN,←o_jj h1,←o_jj h2] at hc
   refine G1 (fs e (fs h1 h2)) ?_;try with_reducible exact tt
   refine AW.cond rfl (fun h=>?_) (fun h=>?_)
   ·refine G1 (fs e (fs h1 h2)) ?_;try with_reducible exact tt
    refine AW.cond rfl (fun h=>?_) (fun h=>?_)
    ·simp at h
     refine G0 ?_;try with_reducible exact tt
     refine Sub1.int ?_
     rw [if_pos h] at hc
     exact hc
    ·simp at h
     rw [if_neg (by omega)] at hc
     refine G0 ?_;try with_reducible exact tt
     refine AW.cond rfl (fun h=>?_) (fun h=>?_)
     ·simp at h
      refine G0 ?_;try with_reducible exact tt
      refine Sub1.int ?_
      rw [if_pos h] at hc
      exact hc
     ·simp at h
      rw [if_neg (by omega)] at hc
      refine G1 ew ?_;try with_reducible exact tt
      exact ⟨m,⟨by omega,hc⟩,by simp⟩
   ·simp at h
 ·refine G0 ?_;try with_reducible exact tt
  refine AW.cond rfl (fun h=>?_) (fun h=>?_)
  ·refine G0 ?_;try with_reducible exact tt
   refine Sub1.int ?_
   split<;>omega
  ·simp at h
   omega
end
section
open Go.RowKit
abbrev U (ws:List Nat):List V:=ws.map fun x:Nat=>V.d (.int .u64 x)

theorem o_jp (x y c s d:Nat) (hx:x<18446744073709551616) (hy:y<18446744073709551616) (hc:c≤1) (hs:s<18446744073709551616) (e:x+y+c=s+18446744073709551616*d):Eqn Tryz.prog o_ia [.d (.int .u64 x),.d (.int .u64 y),.d (.int .u64 c)] [] (.tup [.d (.int .u64 s),.d (.int .u64 d)]) []:=by
 refine Eqn.extern o_ib (by kernel_rfl) (by kernel_rfl) (by kernel_rfl) (e:=add64Entry) (by kernel_rfl) rfl fun m vs h=>?_
 obtain ⟨v1,r1,rfl,h1,h⟩:=V.reps_cons'.1 h
 obtain ⟨v2,r2,rfl,h2,h⟩:=V.reps_cons'.1 h
 obtain ⟨v3,r3,rfl,h3,h⟩:=V.reps_cons'.1 h
 simp at h;subst h
 rw [V.rep_int] at h1 h2 h3
 subst h1 h2 h3
 have:=run_add64 (P:=Tryz.prog) x y c (by omega) (by omega) (by omega) (by omega) m.w
 refine ⟨_,this,?_⟩
 unfold V.rep
 refine ⟨[.int .u64 (((x:Int)+y+c)%18446744073709551616),.int .u64 (((x:Int)+y+c)/18446744073709551616)],rfl,?_⟩
 simp only [V.reps_cons,V.rep_int,V.reps_nil,and_true]
 constructor<;>congr 1<;>omega

theorem o_jq (x y c s d:Nat) (hx:x<18446744073709551616) (hy:y<18446744073709551616) (hc:c≤1) (hs:s<18446744073709551616) (e:x+18446744073709551616*d=s+y+c):Eqn Tryz.prog o_ic [.d (.int .u64 x),.d (.int .u64 y),.d (.int .u64 c)] [] (.tup [.d (.int .u64 s),.d (.int .u64 d)]) []:=by
 refine Eqn.extern o_id (by kernel_rfl) (by kernel_rfl) (by kernel_rfl) (e:=sub64Entry) (by kernel_rfl) rfl fun m vs h=>?_
 obtain ⟨v1,r1,rfl,h1,h⟩:=V.reps_cons'.1 h
 obtain ⟨v2,r2,rfl,h2,h⟩:=V.reps_cons'.1 h
 obtain ⟨v3,r3,rfl,h3,h⟩:=V.reps_cons'.1 h
 simp at h;subst h
 rw [V.rep_int] at h1 h2 h3
 subst h1 h2 h3
 have:=run_sub64 (P:=Tryz.prog) x y c hc m.w
 refine ⟨_,this,?_⟩
 unfold V.rep
 refine ⟨[.int .u64 s,.int .u64 d],?_,by simp only [V.reps_cons,V.rep_int,V.reps_nil,and_true]⟩
 congr 4
 ·omega
 ·congr 2
  split<;>omega

theorem o_jr (a b:List Nat) (i:Nat):a.getD i 0+b.getD i 0+carryW a b i=addW a b i+18446744073709551616*carryW a b (i+1):=by
 rw [addW,carryW];exact (Nat.mod_add_div _ _).symm
theorem o_js {ws:List Nat} {k:Nat} (h:¬k<ws.length):ws.getD k 0=0:=by simp [List.getD,show ws.length≤k by omega]
theorem o_jt (l:List D):(V.tup (l.map .d)).plain:=by
 have h1:V.lowl 0 (l.map V.d)=true:=by induction l<;>simp_all [V.lowl,V.low]
 have h2:∀θ,V.rens θ (l.map V.d)=l.map V.d:=fun θ=>by induction l<;>simp_all [V.rens,V.ren]
 exact ⟨by simp [V.low,h1],fun θ=>by simp [V.ren,h2]⟩

def rowV (f:Nat→D) (n i:Nat):List V:=(List.range i).map (fun k=>V.d (f k))++List.replicate (n-i) (.d (.int .u64 0))
@[simp] theorem o_ju (f:Nat→D) (n i:Nat):(rowV f n i).length=i+(n-i):=by simp [rowV]
theorem out0 (n:Nat) (f:Nat→D):List.replicate n (V.d (.int .u64 0))=rowV f n 0:=by simp [rowV]
theorem o_jv {f:Nat→D} {n i:Nat} (h:i<n):(rowV f n i).set i (.d (f i))=rowV f n (i+1):=by
 obtain ⟨k,rfl⟩:∃k,n=i+k+1:=⟨n-i-1,by omega⟩
 rw [rowV,rowV,List.set_append_right _ _ (by simp),List.range_succ,List.map_append,List.append_assoc]
 congr 1
 simp only [List.length_map,List.length_range,Nat.sub_self]
 rw [show i+k+1-i=k+1 by omega,show i+k+1-(i+1)=k by omega]
 simp [List.replicate_succ]
@[simp] theorem o_jw (n:Nat) (f:Nat→D) (k i:Nat):V.lowl n (rowV f k i)=true:=by
 have h1:∀l:List D,V.lowl n (l.map V.d)=true:=fun l=>by induction l<;>simp_all [V.lowl,V.low]
 have:rowV f k i=((List.range i).map f++List.replicate (k-i) (D.int .u64 0)).map .d:=by simp [rowV]
 rw [this,h1]
@[simp] theorem o_jx (l:List V):Subs l l↔True:=iff_true_intro (Subs.refl l)
theorem o_jy {f:Nat→D} {n:Nat} {z:D}:(rowV f (n+1) n).set n (.d z)=((List.range n).map f++[z]).map .d:=by
 rw [rowV,List.set_append_right _ _ (by simp)]
 simp
theorem o_jz {f:Nat→D} {n:Nat}:rowV f n n=((List.range n).map f).map .d:=by simp [rowV]

theorem o_k0 (a b:D):(V.tup [.d a,.d b]).plain:=o_jt [a,b]
theorem o_k1 (a b c:D):(V.tup [.d a,.d b,.d c]).plain:=o_jt [a,b,c]

theorem o_k2 (m n:Nat) (hm:size m≤1000000) (hn:size n≤1000000):Eqn Tryz.prog o_c2 [.d (.agg [natW m]),.d (.agg [natW n])] [] (.d (.agg [natW (m+n)])) []:=by
 refine Eqn.pure o_c4 (o_5e _) ?_
 -- the longer one,the other one
 obtain ⟨A,B,hAB,hsA,hsB,hle,hsum,hca,hcb⟩:∃A B:List Nat,(A,B)=(if (words m).length<(words n).length then (words n,words m) else (words m,words n))∧small A∧small B∧B.length≤A.length∧wval A+wval B=m+n∧A.length≤1000000∧B.length≤1000000:=by
  unfold size at hm hn
  by_cases h:(words m).length<(words n).length
  ·exact ⟨words n,words m,by rw [if_pos h],o_jc _,o_jc _,by omega,by rw [o_jb,o_jb];omega,by omega,by omega⟩
  ·exact ⟨words m,words n,by rw [if_neg h],o_jc _,o_jc _,by omega,by rw [o_jb,o_jb],by omega,by omega⟩
 refine cc (c':=?z5) ?_ ?_
 case refine_1=>cbv<;>exact rfl
 try simp only [natW,W]
 generalize words m=xs at *
 generalize words n=ys at *
 unfold size at hm hn
 refine AW.seq (AW.reg mix ?_)
 (simp -implicitDefEqProofs;try simp (disch:=omega) only [w64,wu64])
 refine AW.cut 3 [] [(0,⟨42,[.d (W A)]⟩),(1,⟨42,[.d (W B)]⟩)] ?_ ?_ ?_ ?_
 ·simp
 ·simp
 ·refine G0 ?_;try with_reducible exact tt
  refine AW.cond rfl (fun h=>?_) (fun h=>?_)
  ·simp at h
   rw [if_pos h] at hAB
   cases hAB
   refine G0 ?_;try with_reducible exact tt
   simp [W]
  ·simp at h
   rw [if_neg (by omega)] at hAB
   cases hAB
   refine G0 ?_;try with_reducible exact tt
   simp [W]
 clear hAB hm hn
 simp [W]
 refine G0 ?_;try with_reducible exact tt

 rw [out0 _ (fun k=>.int .u64 (addW A B k:Nat))]
 refine G0 ?_;try with_reducible exact tt
 refine AW.loopT (α:=Nat) 4 (fun i=>[(27,.d (.int .i64 (i:Int))),(6,.d (.int .u64 (carryW A B i:Nat)))]) (fun i=>[(3,⟨105,rowV (fun k=>.int .u64 (addW A B k:Nat)) (A.length+1) i⟩)]) (fun i=>i≤A.length) (fun i=>A.length-i) 0 ?_ ?_ (Nat.zero_le _) ?_ ?_ ?_
 ·simp
 ·simp
 ·simp [carryW]
 ·simp
 rintro i hi
 simp
 by_cases h:i=A.length
 ·subst h
  refine G0 ?_;try with_reducible exact tt
  refine AW.cond rfl (fun h=>?_) (fun h=>?_)
  ·simp at h
  refine AW.exit ?_
  (try (simp -implicitDefEqProofs;try simp (disch:=omega) only [w64,wu64]))
  repeat (first | refine AW.seq ?_ | refine AW.block ?_)
  refine AW.reg mix ?_
  (simp -implicitDefEqProofs;try simp (disch:=omega) only [w64,wu64])
  try refine need.of (by first | omega | kernel_rfl) ?_
  obtain ⟨ws,hl,hr,hv,hs⟩:∃ws:List Nat,ws.length=A.length+1∧(rowV (fun k=>.int .u64 (addW A B k:Nat)) (A.length+1) A.length).set A.length (.d (.int .u64 (carryW A B A.length:Nat)))=U ws∧wval ws=m+n∧small ws:=by
   refine ⟨(List.range A.length).map (addW A B)++[carryW A B A.length],by simp,by rw [o_jy];simp [U],?_,?_⟩
   ·rw [o_ie,←hsum]
    have:=o_j1 A B A.length
    rw [List.take_length,List.take_of_length_le hle] at this
    simp [wval]
    rw [←this]
   ·intro x hx
    rcases List.mem_append.1 hx with hx | hx
    ·obtain ⟨k,-,rfl⟩:=List.mem_map.1 hx;exact o_j5 _ _ _
    ·simp at hx;subst hx;have:=o_j0 hsA hsB A.length;omega
  rw [hr]
  refine AW.freeze 3 1 ⟨105,_⟩ (ws.map fun x:Nat=>.int .u64 x) (by rfl) (by simp) ?_
  simp [←hl,List.take_of_length_le]
  refine G0 ?_;try with_reducible exact tt
  refine CallS.pu (o_jk ws hs (by omega)) (R0 ?_);try with_reducible exact tt
  refine Sub1.of ?_
  rw [hv];rfl
 ·have hi':i<A.length:=by omega
  have hp:(i:Int)<A.length:=by omega
  have hc:=o_j0 hsA hsB i
  have hset:=o_jv (f:=fun k=>.int .u64 (addW A B k:Nat)) (n:=A.length+1) (i:=i) (by omega)
  have ew:IntKind.i64.wrap ((i:Int)+1)=(i:Int)+1:=w64 (by omega) (by omega)
  refine G1 (fs hi' hp) ?_;try with_reducible exact tt
  refine AW.cond rfl (fun h=>?_) (fun h=>?_)
  ·clear h
   by_cases hb:i<B.length
   ·have e:A[i]+B[i]+carryW A B i=addW A B i+18446744073709551616*carryW A B (i+1):=by
     rw [←o_jr,o_jj hi',o_jj hb]
    refine G1 (fs hi' (fs hp hb)) ?_;try with_reducible exact tt
    refine AW.cond rfl (fun h=>?_) (fun h=>?_)
    ·clear h
     refine G1 (fs hi' (fs hp hb)) ?_;try with_reducible exact tt
     refine CallS.pu (o_jp _ _ _ (addW A B i) (carryW A B (i+1)) (hsA _ (List.getElem_mem _)) (hsB _ (List.getElem_mem _)) hc (o_j5 _ _ _) e) (R1 (fs hset ew) ?_);try with_reducible exact tt
     exact ⟨i+1,by omega,by omega,by simp [wk,ew],by simp [wkH]⟩
    ·simp [hb] at h
   ·have e:A[i]+0+carryW A B i=addW A B i+18446744073709551616*carryW A B (i+1):=by
     rw [←o_jr,o_jj hi',o_js hb]
    refine G1 (fs hi' (fs hp hb)) ?_;try with_reducible exact tt
    refine AW.cond rfl (fun h=>?_) (fun h=>?_)
    ·simp [hb] at h
    ·clear h
     refine G1 (fs hi' (fs hp hb)) ?_;try with_reducible exact tt
     refine CallS.pu (o_jp _ 0 _ (addW A B i) (carryW A B (i+1)) (hsA _ (List.getElem_mem _)) (by omega) hc (o_j5 _ _ _) e) (R1 (fs hset ew) ?_);try with_reducible exact tt
     exact ⟨i+1,by omega,by omega,by simp [wk,ew],by simp [wkH]⟩
  ·simp at h
end
section
open Go.RowKit
theorem o_k3 {a b:List Nat} (ha:small a) (hb:small b) (i:Nat):a.getD i 0+18446744073709551616*borrowW a b (i+1)=subW a b i+b.getD i 0+borrowW a b i:=by
 have h1:=ha.getD i
 have h2:=hb.getD i
 have h3:=o_j2 a b i
 simp only [subW,borrowW]
 split<;>omega
theorem o_k4 {a b:List Nat} (ha:small a) (hb:small b) (hl:b.length≤a.length) (h:wval b≤wval a):wval ((List.range a.length).map (subW a b))=wval a-wval b:=by
 have h1:=o_j3 ha hb a.length
 rw [List.take_length,List.take_of_length_le hl] at h1
 have h2:=o_j2 a b a.length
 have h3:=o_ig (o_j4 (o_j6 a b) a.length)
 rw [List.length_map,List.length_range] at h3
 have:borrowW a b a.length=0∨borrowW a b a.length=1:=by omega
 rcases this with e | e
 ·rw [e] at h1;omega
 ·rw [e] at h1;omega
theorem o_k5 {m n:Nat} (h:m≤n):size m≤size n:=by
 apply Nat.le_of_not_lt
 intro hlt
 have:=o_jn hlt
 omega

theorem o_k6 (m n:Nat) (hm:size m≤1000000) (hle:n≤m):Eqn Tryz.prog o_e5 [.d (.agg [natW m]),.d (.agg [natW n])] [] (.tup [.d (.agg [natW (m-n)]),.d (.int .i64 0)]) []:=by
 refine Eqn.pure o_e7 (o_k0 _ _) ?_
 have hs:=o_k5 hle
 refine cc (c':=?z6) ?_ ?_
 case refine_1=>cbv<;>exact rfl
 refine G0 ?_;try with_reducible exact tt
 refine CallS.pu (o_jo m n hm (by omega)) (R0 ?_);try with_reducible exact tt
 have hc:¬cmpZ m n<0:=by unfold cmpZ;split<;>(try split)<;>omega
 refine AW.cond rfl (fun h=>?_) (fun h=>?_)
 ·simp [hc] at h
 clear h
 refine G0 ?_;try with_reducible exact tt
 unfold size at hm hs
 obtain ⟨A,hA⟩:∃A,A=words m:=⟨_,rfl⟩
 obtain ⟨B,hB⟩:∃B,B=words n:=⟨_,rfl⟩
 have hsA:small A:=hA▸o_jc m
 have hsB:small B:=hB▸o_jc n
 have hvA:wval A=m:=by rw [hA,o_jb]
 have hvB:wval B=n:=by rw [hB,o_jb]
 rw [show natW m = .sl A.length (A.map fun x:Nat=>.int .u64 x) by rw [hA];rfl,show natW n = .sl B.length (B.map fun x:Nat=>.int .u64 x) by rw [hB];rfl]
 rw [←hA,←hB] at hs
 rw [←hA] at hm
 clear hA hB
 refine G0 ?_;try with_reducible exact tt
 rw [out0 _ (fun k=>.int .u64 (subW A B k:Nat))]
 refine AW.loopT (α:=Nat) 4 (fun i=>[(23,.d (.int .i64 (i:Int))),(7,.d (.int .u64 (borrowW A B i:Nat)))]) (fun i=>[(3,⟨105,rowV (fun k=>.int .u64 (subW A B k:Nat)) A.length i⟩)]) (fun i=>i≤A.length) (fun i=>A.length-i) 0 ?_ ?_ (Nat.zero_le _) ?_ ?_ ?_
 ·simp
 ·simp
 ·simp [borrowW]
 ·simp
 rintro i hi
 simp
 by_cases h:i=A.length
 ·subst h
  refine G0 ?_;try with_reducible exact tt
  refine AW.cond rfl (fun h=>?_) (fun h=>?_)
  ·simp at h
  refine AW.exit ?_
  (try (simp -implicitDefEqProofs;try simp (disch:=omega) only [w64,wu64]))
  obtain ⟨ws,hl,hr,hv,hs'⟩:∃ws:List Nat,ws.length=A.length∧rowV (fun k=>.int .u64 (subW A B k:Nat)) A.length A.length=U ws∧wval ws=m-n∧small ws:=by
   refine ⟨(List.range A.length).map (subW A B),by simp,by rw [o_jz];simp [U],?_,o_j4 (o_j6 A B) _⟩
   rw [←hvA,←hvB]
   exact o_k4 hsA hsB hs (by omega)
  rw [hr]
  refine AW.freeze 3 1 ⟨105,_⟩ (ws.map fun x:Nat=>.int .u64 x) (by rfl) (by simp) ?_
  simp [←hl,List.take_of_length_le]
  refine G0 ?_;try with_reducible exact tt
  refine CallS.pu (o_jk ws hs' (by omega)) (R0 ?_);try with_reducible exact tt
  refine Sub1.of ?_
  rw [hv]
 ·have hi':i<A.length:=by omega
  have hp:(i:Int)<A.length:=by omega
  have hc:=o_j2 A B i
  have hset:=o_jv (f:=fun k=>.int .u64 (subW A B k:Nat)) (n:=A.length) (i:=i) (by omega)
  have ew:IntKind.i64.wrap ((i:Int)+1)=(i:Int)+1:=w64 (by omega) (by omega)
  have e:=o_k3 hsA hsB i
  refine G1 (fs hi' hp) ?_;try with_reducible exact tt
  refine AW.cond rfl (fun h=>?_) (fun h=>?_)
  ·clear h
   by_cases hb:i<B.length
   ·rw [←o_jj hi',←o_jj hb] at e
    refine G1 (fs hi' (fs hp hb)) ?_;try with_reducible exact tt
    refine AW.cond rfl (fun h=>?_) (fun h=>?_)
    ·clear h
     refine G1 (fs hi' (fs hp hb)) ?_;try with_reducible exact tt
     refine CallS.pu (o_jq _ _ _ (subW A B i) (borrowW A B (i+1)) (hsA _ (List.getElem_mem _)) (hsB _ (List.getElem_mem _)) hc (o_j6 _ _ _) e) (R1 (fs hset ew) ?_);try with_reducible exact tt
     exact ⟨i+1,by omega,by omega,by simp [wk,ew],by simp [wkH]⟩
    ·simp [hb] at h
   ·rw [←o_jj hi',o_js hb] at e
    refine G1 (fs hi' (fs hp hb)) ?_;try with_reducible exact tt
    refine AW.cond rfl (fun h=>?_) (fun h=>?_)
    ·simp [hb] at h
    ·clear h
     refine G1 (fs hi' (fs hp hb)) ?_;try with_reducible exact tt
     refine CallS.pu (o_jq _ 0 _ (subW A B i) (borrowW A B (i+1)) (hsA _ (List.getElem_mem _)) (by omega) hc (o_j6 _ _ _) e) (R1 (fs hset ew) ?_);try with_reducible exact tt
     exact ⟨i+1,by omega,by omega,by simp [wk,ew],by simp [wkH]⟩
  ·simp at h
end
section
open Go.RowKit
def rowM (k:Nat) (A:List Nat) (i:Nat):List Nat:=movedL k 0 (A.take i)++List.replicate (A.length-i) 0
theorem o_k7 (k:Nat) (A:List Nat) (i:Nat) (h:i≤A.length):(rowM k A i).length=A.length+1:=by
 rw [rowM,List.length_append,o_im,List.length_take,List.length_replicate];omega
theorem o_k8 (k:Nat) (A:List Nat):rowM k A 0=List.replicate (A.length+1) 0:=by simp [rowM,movedL,List.replicate_succ]
theorem o_k9 (k:Nat) (A:List Nat):rowM k A A.length=movedL k 0 A:=by simp [rowM]
theorem o_ka (k:Nat) (A:List Nat) (i:Nat) (h:i<A.length):(rowM k A i).getD i 0=movedC k 0 (A.take i):=by
 have e:i=(movedB k 0 (A.take i)).length:=by rw [o_iq,List.length_take];omega
 rw [rowM,o_ip,List.append_assoc,List.getD,List.getElem?_append_right (by omega),show i-(movedB k 0 (A.take i)).length=0 by omega]
 rfl
theorem o_kb (k:Nat) (A:List Nat) (i:Nat) (h:i<A.length):((rowM k A i).set i (A.getD i 0*2^k%18446744073709551616+movedC k 0 (A.take i))).set (i+1) (A.getD i 0*2^k/18446744073709551616)=rowM k A (i+1):=by
 have e:(movedB k 0 (A.take i)).length=i:=by rw [o_iq,List.length_take];omega
 obtain ⟨r,hr⟩:∃r,A.length=i+r+1:=⟨A.length-i-1,by omega⟩
 rw [rowM,rowM,o_ip,o_ip,o_ih _ _ h,o_ir,o_is,hr,show i+r+1-i=r+1 by omega,show i+r+1-(i+1)=r by omega,List.replicate_succ]
 simp only [List.append_assoc,List.cons_append,List.nil_append]
 rw [List.set_append_right _ _ (by omega),List.set_append_right _ _ (by omega),e]
 simp

def cellM (k:Nat) (A:List Nat) (i:Nat):List V:=U (rowM k A i)
@[simp] theorem o_kc (n:Nat) (l:List Nat):V.lowl n (U l)=true:=by induction l<;>simp_all [U,V.lowl,V.low]

set_option maxHeartbeats 1000000 in
theorem o_kd (A:List Nat) (k:Nat) (hk:k<64) (hs:small A) (hn:A.length≤1000000):Eqn Tryz.prog o_ft [.d (W A),.d (.int .i64 k)] [] (.d (W (movedL k 0 A))) []:=by
 refine Eqn.pure o_fv (o_5e _) ?_
 refine cc (c':=?z7) ?_ ?_
 case refine_1=>cbv<;>exact rfl
 try simp only [W]
 refine G0 ?_;try with_reducible exact tt
 rw [show List.replicate (A.length+1) (V.d (.int .u64 0))=cellM k A 0 by rw [cellM,o_k8];simp [U]]
 have hlow:∀i,V.lowl 1 (cellM k A i)=true:=fun i=>o_kc 1 _
 refine AW.loopT (α:=Nat) 1 (fun i=>[(14,.d (.int .i64 (i:Int)))]) (fun i=>[(0,⟨105,cellM k A i⟩)]) (fun i=>i≤A.length) (fun i=>A.length-i) 0 ?_ ?_ (Nat.zero_le _) ?_ ?_ ?_
 ·simp
 ·simp
 ·simp
 ·simp [hlow]
 rintro i hi
 simp
 by_cases h:i=A.length
 ·subst h
  refine G0 ?_;try with_reducible exact tt
  refine AW.cond rfl (fun h=>?_) (fun h=>?_)
  ·simp at h
  refine AW.exit ?_
  (try (simp -implicitDefEqProofs;try simp (disch:=omega) only [w64,wu64]))
  have hl:(movedL k 0 A).length=A.length+1:=o_im _ _ _
  rw [cellM,o_k9]
  generalize movedL k 0 A=ws at hl
  refine AW.freeze 0 1 ⟨105,_⟩ (ws.map fun x:Nat=>.int .u64 x) (by rfl) (by simp) ?_
  simp [←hl,List.take_of_length_le]
  refine G0 ?_;try with_reducible exact tt
 ·have hi':i<A.length:=by omega
  have hp:(i:Int)<A.length:=by omega
  obtain ⟨c,y,u,hl,hq,hor,hw,hd,hset⟩:∃c z u:Nat,(cellM k A i).length=A.length+1∧(cellM k A i)[i]?=some (.d (.int .u64 c))∧bits BinOp.or IntKind.u64 (c:Int) (IntKind.u64.wrap ((A[i]:Int)*2^k))=(z:Int) ∧
    True∧(A[i]:Int)/2^(64-k)=(u:Int)∧((cellM k A i).set i (.d (.int .u64 z))).set (i+1) (.d (.int .u64 u))=cellM k A (i+1):=by
   have hl:=o_k7 k A i hi
   have hc:=o_iu (k:=k) (l:=A.take i) (c:=0) (hs.take i) (Nat.two_pow_pos k)
   have hset:=o_kb k A i hi'
   rw [←o_jj hi'] at hset
   refine ⟨movedC k 0 (A.take i),A[i]*2^k%18446744073709551616+movedC k 0 (A.take i),A[i]*2^k/18446744073709551616,by simp [cellM,U,hl],?_,?_,trivial,?_,?_⟩
   ·have:=o_ka k A i hi'
    rw [List.getD,List.getElem?_eq_getElem (by omega)] at this
    rw [cellM,U,List.getElem?_map,List.getElem?_eq_getElem (by omega)]
    simp at this
    simp [this]
   ·rw [show IntKind.u64.wrap ((A[i]:Int)*2^k)=((A[i]*2^k%18446744073709551616:Nat):Int) by rw [IntKind.wrap_u64,Int.natCast_emod,Int.natCast_mul,Int.natCast_pow];rfl]
    rw [bits_or_u64_nat _ _ (Nat.lt_of_lt_of_le hc (by rw [show (18446744073709551616:Nat)=2^64 by rfl];exact Nat.pow_le_pow_right (by decide) (by omega))) (Nat.mod_lt _ (by decide)),o_iv hk hc]
   ·rw [o_iw (by omega),Int.natCast_ediv,Int.natCast_pow];rfl
   ·rw [cellM,cellM,←hset,U,U,List.map_set,List.map_set]
  have hn:((64:Int)-k).toNat=64-k:=by omega
  have e1:IntKind.i64.wrap ((i:Int)+1)=(i:Int)+1:=w64 (by omega) (by omega)
  have e2:IntKind.i64.wrap ((64:Int)-k)=(64:Int)-k:=w64 (by omega) (by omega)
  generalize cellM k A i=cm at hl hq hset
  refine G1 (fs hi' hp) ?_;try with_reducible exact tt
  refine AW.cond rfl (fun h=>?_) (fun h=>?_)
  ·clear h
   refine G1 (fs hi' (fs hp (fs hl (fs hq (fs hor (fs e1 (fs e2 (fs hn (fs hd hset))))))))) ?_;try with_reducible exact tt
   exact ⟨i+1,by omega,by omega,by simp [wk],by simp [wkH,hlow]⟩
  ·simp at h
end
section
open Go.RowKit
theorem o_ke (n:Nat):(words n).length=size n:=rfl

set_option maxHeartbeats 1000000 in
theorem o_kf (a n:Nat) (ha:size a≤1000000) (hn:n≤8192):Eqn Tryz.prog o_ew [.d (.agg [natW a]),.d (.int .i64 n)] [] (.tup [.d (.agg [natW (a*2^n)]),.d (.int .i64 0)]) []:=by
 refine Eqn.pure o_ey (o_k0 _ _) ?_
 refine cc (c':=?z8) ?_ ?_
 case refine_1=>cbv<;>exact rfl
 try simp only [natW,W]
 have h1:¬(n:Int)<0:=by omega
 have h2:¬(8192:Int)<n:=by omega
 refine G1 (fs h1 h2) ?_;try with_reducible exact tt
 refine AW.cond rfl (fun h=>?_) (fun h=>?_)
 ·simp [h1,h2] at h
 have hq:(n:Int)/64=(n/64:Nat):=rfl
 have hr:(n:Int).tmod 64=(n%64:Nat):=by rw [Int.tmod_eq_emod_of_nonneg (by omega)];rfl
 have hd:n/64≤128:=by omega
 have hm:n%64<64:=by omega
 have hv:∀l:List Nat,wval l=a→wval (List.replicate (n/64) 0++movedL (n%64) 0 l)=a*2^n:=by
  intro l hl
  rw [o_ie,o_if,o_in,List.length_replicate,hl,Nat.zero_add,Nat.add_zero]
  rw [show (18446744073709551616:Nat)=2^64 by rfl,←Nat.pow_mul,Nat.mul_left_comm,←Nat.pow_add,Nat.div_add_mod]
 replace hv:=hv (words a) (o_jb a)
 have hsm:small (List.replicate (n/64) 0++movedL (n%64) 0 (words a)):=by
  intro x hx
  rcases List.mem_append.1 hx with hx | hx
  ·rw [List.eq_of_mem_replicate hx];omega
  ·exact o_io hm (o_jc a) (Nat.two_pow_pos _) x hx
 have hl:=o_im (n%64) (words a) 0
 generalize n/64=q at *
 generalize n%64=r at *
 unfold size at ha
 refine G1 (fs hq hr) ?_;try with_reducible exact tt
 refine CallS.pu (o_kd (words a) r hm (o_jc a) (by omega)) ?_
 (try (simp -implicitDefEqProofs [W,hl];try simp (disch:=omega) only [w64,wu64]))
 repeat (first | refine AW.seq ?_ | refine AW.block ?_ | (refine AW.reg mix ?_;simp -implicitDefEqProofs [W,hl];try simp (disch:=omega) only [w64,wu64]) | (refine need.of (by first | omega | kernel_rfl) ?_) | (refine AW.fin ?_;try simp -implicitDefEqProofs [W,hl]))
 have hlen:(List.replicate q 0++movedL r 0 (words a)).length=q+((words a).length+1):=by simp [hl]
 have hcell:List.replicate q (V.d (.int .u64 0))++List.map (V.d ∘ fun x:Nat=>D.int .u64 x) (movedL r 0 (words a))=((List.replicate q 0++movedL r 0 (words a)).map fun x:Nat=>D.int .u64 x).map V.d:=by simp
 rw [hcell]
 generalize List.replicate q 0++movedL r 0 (words a)=ws at *
 have hlen2:q+((words a).length+1)=ws.length:=hlen.symm
 refine CallS.pf 3 1 ⟨105,_⟩ (ws.map fun x:Nat=>.int .u64 x) (o_jk ws hsm (by omega)) (by first | rfl | (simp [natW,W,hlen2,List.take_of_length_le];done)) ?_
 (try (simp -implicitDefEqProofs [natW,W,hlen2,List.take_of_length_le];try simp (disch:=omega) only [w64,wu64]))
 repeat (first | refine AW.seq ?_ | refine AW.block ?_ | (refine AW.reg mix ?_;simp -implicitDefEqProofs [natW,W,hlen2,List.take_of_length_le];try simp (disch:=omega) only [w64,wu64]) | (refine need.of (by first | omega | kernel_rfl) ?_) | (refine AW.fin ?_;try simp -implicitDefEqProofs [natW,W,hlen2,List.take_of_length_le]))
 refine Sub1.of ?_
 rw [hv]
end
section
open Go.RowKit
theorem o_kg {x:Nat} (h0:0<x) (h:x<18446744073709551616):words x=[x]:=by
 have:=o_je (ws:=[x]) (by intro y hy;simp at hy;omega) (by intro k hk;simp at hk;subst hk;simp;omega)
 simpa [wval] using this
theorem o_kh {x:Nat} (h:x<18446744073709551616):small [x]:=by intro y hy;simp at hy;omega

theorem Sub1.tup {l r:List V} (h:Subs l r):Sub1 (.tup l) (.tup r):=fun m v k=>by
 unfold V.rep at k ⊢
 obtain ⟨vs,h1,h2⟩:=k
 exact ⟨vs,h1,h m vs h2⟩
theorem Subs.cons {x y:V} {l r:List V} (h:Sub1 x y) (h':Subs l r):Subs (x::l) (y::r):=fun m vs k=>by
 obtain ⟨v,r,rfl,h1,h2⟩:=V.reps_cons'.1 k
 exact V.reps_cons.2 ⟨h m v h1,h' m r h2⟩
theorem Sub1.nat0:Sub1 (.d (.agg [.nilsl])) (.d (.agg [natW 0])):=fun m v k=>by
 rw [V.rep_d] at k ⊢
 unfold D.rep at k ⊢
 obtain ⟨vs,h1,h2,h3⟩:=k
 refine ⟨vs,h1,h2,?_⟩
 obtain ⟨u,r,rfl,h4,h5⟩:=D.reps_cons'.1 h3
 have:=(V.rep_d (m:=m)).1 (Sub1.nil m u (V.rep_d.2 h4))
 exact D.reps_cons.2 ⟨this,h5⟩

theorem o_ki {m n:Nat}:cmpZ m n<0↔m<n:=by unfold cmpZ;split<;>(try split)<;>omega
theorem o_kj (x y:Nat) (hx:x<18446744073709551616) (h0:0<y):Eqn Tryz.prog o_eh [.d (.int .u64 0),.d (.int .u64 x),.d (.int .u64 y)] [] (.tup [.d (.int .u64 (x/y:Nat)),.d (.int .u64 (x%y:Nat))]) []:=by
 refine Eqn.pure o_ej (o_k0 _ _) ?_
 refine cc (c':=?z9) ?_ ?_
 case refine_1=>cbv<;>exact rfl
 have h1:¬(y:Int)=0:=by omega
 have h1':¬y=0:=by omega
 have h2:¬(y:Int)≤0:=by omega
 refine G1 (fs h1 (fs h2 h1')) ?_;try with_reducible exact tt
 refine AW.cond rfl (fun h=>?_) (fun h=>?_)
 ·simp [h1'] at h
 refine G1 (fs h1 (fs h2 h1')) ?_;try with_reducible exact tt
 refine AW.cond rfl (fun h=>?_) (fun h=>?_)
 ·simp [h1',h2] at h
 refine G1 (fs h1 (fs h2 h1')) ?_;try with_reducible exact tt
 refine AW.cond rfl (fun h=>?_) (fun h=>?_)
 ·have hle:=Nat.div_le_self x y
  have e1:IntKind.u64.wrap ((x:Int)/y)=(x:Int)/y:=by
   rw [←Int.natCast_ediv]
   generalize x/y=q at *
   exact wu64 (by omega) (by omega)
  have e2:(x:Int).tmod y=((x%y:Nat):Int):=by rw [Int.tmod_eq_emod_of_nonneg (by omega)];rfl
  refine G1 (fs h1 (fs h2 (fs h1' (fs e1 e2)))) ?_;try with_reducible exact tt
 ·simp at h

theorem o_kk (x y:Nat) (hx:x<18446744073709551616) (h0:0<y) (hy:y<18446744073709551616):Eqn Tryz.prog o_c8 [.d (.sl 1 [.int .u64 x]),.d (.int .u64 y)] [] (.tup [.d (.sl 1 [.int .u64 (x/y:Nat)]),.d (.int .u64 (x%y:Nat))]) []:=by
 refine Eqn.pure o_ca (o_k0 _ _) ?_
 refine cc (c':=?z10) ?_ ?_
 case refine_1=>cbv<;>exact rfl
 refine G0 ?_;try with_reducible exact tt
 refine AW.loopT (α:=Nat) 1 (fun i=>[(8,.d (.int .i64 ((i:Int)-1))),(7,.d (.int .u64 (if i=0 then (x%y:Nat) else 0)))]) (fun i=>[(0,⟨105,[.d (.int .u64 (if i=0 then (x/y:Nat) else 0))]⟩)]) (fun i=>i≤1) (fun i=>i) 1 ?_ ?_ (Nat.le_refl _) ?_ ?_ ?_
 ·simp
 ·simp
 ·simp
 ·simp
 rintro i hi
 simp
 cases i with
 | zero =>
  refine G0 ?_;try with_reducible exact tt
  refine AW.cond rfl (fun h=>?_) (fun h=>?_)
  ·simp at h
  refine AW.exit ?_
  (try (simp -implicitDefEqProofs;try simp (disch:=omega) only [w64,wu64]))
  refine AW.freeze 0 1 ⟨105,_⟩ [.int .u64 (x/y:Nat)] (by rfl) (by simp) ?_
  simp
  refine G0 ?_;try with_reducible exact tt
 | succ i =>
  obtain rfl:i=0:=by omega
  refine G0 ?_;try with_reducible exact tt
  refine AW.cond rfl (fun h=>?_) (fun h=>?_)
  ·refine G0 ?_;try with_reducible exact tt
   refine CallS.pu (o_kj x y hx h0) (R0 ?_);try with_reducible exact tt
   exact ⟨0,by omega,rfl,by simp,by simp⟩
  ·simp at h

theorem o_kl (a b:Nat) (ha:a<18446744073709551616) (h0:0<b) (hb:b<18446744073709551616):Eqn Tryz.prog o_e2 [.d (.agg [natW a]),.d (.agg [natW b])] [] (.tup [.d (.agg [natW (a/b)]),.d (.agg [natW (a%b)]),.d (.int .i64 0)]) []:=by
 refine Eqn.pure o_e4 (o_k1 _ _ _) ?_
 have sa:size a≤1:=by
  rw [size]
  rcases Nat.eq_zero_or_pos a with rfl | h
  ·simp [words,wordsF]
  ·rw [o_kg h ha];simp
 have sb:size b≤1:=by rw [size,o_kg h0 hb];simp
 refine cc (c':=?z11) ?_ ?_
 case refine_1=>cbv<;>exact rfl
 refine G0 ?_;try with_reducible exact tt
 refine CallS.pu (o_jm b) (R0 ?_);try with_reducible exact tt
 have hz:(b==0)=false:=by simp;omega
 refine AW.cond rfl (fun h=>?_) (fun h=>?_)
 ·simp [hz] at h
 refine G0 ?_;try with_reducible exact tt
 refine CallS.pu (o_jo a b (by omega) (by omega)) (R0 ?_);try with_reducible exact tt
 refine AW.cond rfl (fun h=>?_) (fun h=>?_)
 ·have hlt:a<b:=by simpa [o_ki] using h
  rw [Nat.div_eq_of_lt hlt,Nat.mod_eq_of_lt hlt]
  refine G0 ?_;try with_reducible exact tt
  refine CallS.pu (o_jl (words a) (o_jc a) (by unfold size at sa;omega)) (R0 ?_);try with_reducible exact tt
  rw [o_jb]
  exact Sub1.tup (Subs.cons (Sub1.nat0) (Subs.refl _))
 ·have hge:¬a<b:=fun hlt=>by simp [o_ki,hlt] at h
  have e:natW a = .sl 1 [.int .u64 a]:=by rw [natW,o_kg (by omega) ha];rfl
  have e':natW b = .sl 1 [.int .u64 b]:=by rw [natW,o_kg (by omega) hb];rfl
  refine G1 (fs e e') ?_;try with_reducible exact tt
  refine AW.cond rfl (fun h=>?_) (fun h=>?_)
  ·refine G1 (fs e e') ?_;try with_reducible exact tt
   refine CallS.pu (o_kk a b ha h0 hb) (R0 ?_);try with_reducible exact tt
   refine CallS.pu (o_jk [a/b] (o_kh (by have:=Nat.div_le_self a b;omega)) (by simp)) (R0 ?_);try with_reducible exact tt
   refine CallS.pf 4 1 ⟨105,_⟩ [.int .u64 (a%b:Nat)] (o_jl [a%b] (o_kh (by have:=Nat.mod_lt a h0;omega)) (by simp)) (by first | rfl | (simp;done)) (R0 ?_);try with_reducible exact tt
   simp [wval]
  ·simp [e'] at h
theorem o_km (a b:Nat) (ha:a<18446744073709551616) (hb:b<18446744073709551616):Eqn Tryz.prog o_dw [.d (.agg [natW a]),.d (.agg [natW b])] [] (.d (.agg [natW (Nat.gcd a b)])) []:=by
 refine Eqn.pure o_dy (o_5e _) ?_
 refine cc (c':=?z12) ?_ ?_
 case refine_1=>cbv<;>exact rfl
 refine G0 ?_;try with_reducible exact tt
 refine AW.loopT (α:=Nat×Nat) 3 (fun _=>[]) (fun p=>[(0,⟨42,[.d (natW p.1)]⟩),(1,⟨42,[.d (natW p.2)]⟩)]) (fun p=>p.1<18446744073709551616∧p.2<18446744073709551616∧Nat.gcd p.1 p.2=Nat.gcd a b) (fun p=>p.2) (a,b) ?_ ?_ ⟨ha,hb,rfl⟩ ?_ ?_ ?_
 ·simp
 ·simp
 ·simp
 ·simp
 rintro ⟨x,y⟩ ⟨hx,hy,hg⟩
 simp only at hx hy hg
 simp
 refine G0 ?_;try with_reducible exact tt
 refine CallS.pu (o_jm y) (R0 ?_);try with_reducible exact tt
 by_cases h0:y=0
 ·subst h0
  simp
  refine AW.cond rfl (fun h=>?_) (fun h=>?_)
  ·simp at h
  refine AW.exit ?_
  (try (simp -implicitDefEqProofs;try simp (disch:=omega) only [w64,wu64]))
  have sx:size x≤1:=by
   rw [size]
   rcases Nat.eq_zero_or_pos x with rfl | h
   ·simp [words,wordsF]
   ·rw [o_kg h hx];simp
  refine G0 ?_;try with_reducible exact tt
  refine CallS.pu (o_jl (words x) (o_jc x) (by unfold size at sx;omega)) (R0 ?_);try with_reducible exact tt
  refine Sub1.of ?_
  rw [o_jb,←hg,Nat.gcd_zero_right]
 ·refine AW.cond rfl (fun h=>?_) (fun h=>?_)
  ·refine G0 ?_;try with_reducible exact tt
   refine CallS.pu (o_kl x y hx (by omega) hy) (R0 ?_);try with_reducible exact tt
   have hlt:=Nat.mod_lt x (show y>0 by omega)
   exact ⟨y,x%y,⟨hy,by omega,by rw [←hg,Nat.gcd_comm y,←Nat.gcd_rec,Nat.gcd_comm]⟩,hlt,Subs.refl _,Subs.refl _⟩
  ·simp at h
   exact absurd h h0
end
section
def bitsN (n:Nat):Nat:=if n=0 then 0 else Nat.log2 n+1
theorem o_kn (n:Nat):n<2^bitsN n:=by
 unfold bitsN
 split
 ·omega
 ·exact Nat.lt_log2_self
theorem o_ko {n k:Nat} (h:n<2^k):bitsN n≤k:=by
 unfold bitsN
 split
 ·omega
 ·rename_i h0
  have:=(Nat.log2_lt h0).2 h
  omega
def moreY (s t:Nat):Nat:=t+(if t/2^s*2^s<t then t/2^s+1 else t/2^s)
def shiftY (s t:Nat):Nat:=bitsN t-1-2*s
structure Pl where
 x:Nat
 shift:Nat
 value:Nat
 reply:Nat
def nextY (s:Nat) (p:Pl):Pl:=if p.reply≤p.value+2^p.shift then ⟨p.x+1,shiftY s (moreY s p.reply),p.value+2^p.shift,moreY s p.reply⟩ else ⟨p.x,p.shift,p.value+2^p.shift,p.reply⟩
def placeY (s:Nat):Nat→Pl
 | 0=>⟨0,0,0,2^(2*s)⟩
 | k+1=>nextY s (placeY s k)

theorem o_kp {n k:Nat} (h:2^k≤n):bitsN n=k+bitsN (n/2^k):=by
 have hp:=Nat.two_pow_pos k
 have hq:0<n/2^k:=Nat.div_pos h hp
 have h1:=o_kn (n/2^k)
 have h2:2^(bitsN (n/2^k)-1)≤n/2^k:=by
  unfold bitsN
  rw [if_neg (by omega),Nat.add_sub_cancel]
  exact Nat.log2_self_le (by omega)
 have h3:0<bitsN (n/2^k):=by unfold bitsN;rw [if_neg (by omega)];omega
 apply Nat.le_antisymm
 ·apply o_ko
  rw [Nat.pow_add,Nat.mul_comm]
  exact (Nat.div_lt_iff_lt_mul hp).1 h1
 ·apply Nat.le_of_not_lt
  intro hlt
  have h4:=o_kn n
  have h5:2^bitsN n≤2^(k+(bitsN (n/2^k)-1)):=Nat.pow_le_pow_right (by omega) (by omega)
  rw [Nat.pow_add] at h5
  have h6:2^k*2^(bitsN (n/2^k)-1)≤n:=by
   rw [Nat.mul_comm];exact Nat.le_trans (Nat.mul_le_mul_right _ h2) (Nat.div_mul_le_self _ _)
  omega
theorem o_kq {n:Nat} (h:0<n):2^(bitsN n-1)≤n∧0<bitsN n:=by
 unfold bitsN
 rw [if_neg (by omega),Nat.add_sub_cancel]
 exact ⟨Nat.log2_self_le (by omega),by omega⟩

theorem o_kr {s t:Nat} (hs:1≤s) (ht:2≤t):moreY s t≤2*t:=by
 unfold moreY
 have h2:2≤2^s:=by
  calc 2=2^1:=by decide
   _≤2^s:=Nat.pow_le_pow_right (by decide) hs
 have h1:t/2^s≤t/2:=Nat.div_le_div_left h2 (by decide)
 split<;>omega

theorem o_ks {s:Nat} (hs:1≤s):∀k,4≤(placeY s k).reply∧(placeY s k).reply≤2^(2*s+k)∧(placeY s k).shift≤2*s+k∧(placeY s k).value≤k*2^(2*s+k)∧(placeY s k).x≤k:=by
 intro k
 induction k with
 | zero =>
  simp only [placeY]
  have:2^2≤2^(2*s):=Nat.pow_le_pow_right (by decide) (by omega)
  rw [Nat.add_zero]
  omega
 | succ k ih =>
  obtain ⟨h1,h2,h3,h4,h5⟩:=ih
  have hp:2^(2*s+(k+1))=2*2^(2*s+k):=by rw [show 2*s+(k+1)=2*s+k+1 by omega,Nat.pow_succ];omega
  have hm:=o_kr hs (show 2≤(placeY s k).reply by omega)
  have hm4:(placeY s k).reply≤moreY s (placeY s k).reply:=by unfold moreY;omega
  have hsh:2^(placeY s k).shift≤2^(2*s+k):=Nat.pow_le_pow_right (by decide) h3
  have hv:(placeY s k).value+2^(placeY s k).shift≤(k+1)*2^(2*s+(k+1)):=by
   rw [hp,Nat.add_mul,Nat.one_mul,Nat.mul_left_comm]
   generalize 2^(2*s+k)=P at *
   generalize k*P=Q at *
   omega
  have hb:bitsN (moreY s (placeY s k).reply)≤2*s+(k+1)+1:=o_ko (by
   rw [Nat.pow_succ,hp]
   have:0<2^(2*s+k):=Nat.pow_pos (by decide)
   omega)
  simp only [placeY,nextY]
  split
  ·refine ⟨by simp only;omega,by simp only;omega,?_,hv,by simp only;omega⟩
   simp only [shiftY]
   omega
  ·refine ⟨by simp only;omega,by simp only;omega,by simp only;omega,hv,by simp only;omega⟩
end
section
set_option maxRecDepth 10000
theorem o_kt {y1 y0 u u1 q r:Nat} (e:q*y1+r=u) (hle:q*y0≤r*4294967296+u1) (hgt:u*4294967296+u1<(q+1)*(y1*4294967296+y0)) :
  (u*4294967296+u1)/(y1*4294967296+y0)=q:=by
 have h1:q*(y1*4294967296+y0)≤u*4294967296+u1:=by
  rw [Nat.mul_add,←Nat.mul_assoc,←e,Nat.add_mul]
  omega
 have hpos:0<y1*4294967296+y0:=by
  rcases Nat.eq_zero_or_pos (y1*4294967296+y0) with h | h
  ·rw [h] at hgt;omega
  ·exact h
 exact Nat.div_eq_of_lt_le h1 hgt
theorem lin (a r u u1 b z:Nat) (e:a+r=u) (hc:r*b+u1<z):u*b+u1<a*b+z:=by
 subst e;rw [Nat.add_mul];omega
theorem o_ku {y1 y0 u u1 q r:Nat} (e:q*y1+r=u) (hu:u<y1*4294967296+y0) (hu1:u1<4294967296) (hc:4294967296≤q∨r*4294967296+u1<q*y0) :
  0<q∧(q-1)*y1+(r+y1)=u∧u*4294967296+u1<(q-1+1)*(y1*4294967296+y0):=by
 have hq:0<q:=by
  rcases Nat.eq_zero_or_pos q with h | h
  ·subst h;omega
  ·exact h
 have e1:(q-1)*y1+y1=q*y1:=by
  obtain ⟨k,rfl⟩:∃k,q=k+1:=⟨q-1,by omega⟩
  rw [Nat.add_sub_cancel,Nat.add_mul,Nat.one_mul]
 have e2:q-1+1=q:=by omega
 rw [e2]
 refine ⟨hq,by omega,?_⟩
 rcases hc with hc | hc
 ·have h1:(y1*4294967296+y0)*4294967296≤(y1*4294967296+y0)*q:=Nat.mul_le_mul_left _ hc
  rw [Nat.mul_comm q]
  obtain ⟨p,hp⟩:∃p,p=(y1*4294967296+y0)*q:=⟨_,rfl⟩
  rw [←hp] at h1 ⊢
  clear hp e1
  omega
 ·rw [Nat.mul_add,←Nat.mul_assoc]
  obtain ⟨a,ha⟩:∃a,a=q*y1:=⟨_,rfl⟩
  rw [←ha] at e ⊢
  exact lin a r u u1 _ _ e hc
theorem o_kv {y1 y0 u q r:Nat} (e:q*y1+r=u) (hu:u<y1*4294967296+y0) (hy0:y0<4294967296) (hr:4294967296≤r) (u1:Nat):q*y0≤r*4294967296+u1:=by
 have hq:q<4294967296:=by
  apply Nat.lt_of_not_le
  intro h
  have:4294967296*y1≤q*y1:=Nat.mul_le_mul_right y1 h
  omega
 have:q*y0≤4294967295*4294967295:=Nat.mul_le_mul (by omega) (by omega)
 omega
theorem o_kw {y1 y0 u u1:Nat} (h1:0<y1) (hu1:u1<4294967296):u*4294967296+u1<(u/y1+1)*(y1*4294967296+y0):=by
 have h:=Nat.lt_mul_div_succ u h1
 rw [Nat.mul_comm] at h
 have h2:(u/y1+1)*(y1*4294967296)≤(u/y1+1)*(y1*4294967296+y0):=Nat.mul_le_mul_left _ (by omega)
 rw [←Nat.mul_assoc] at h2
 generalize (u/y1+1)*y1=a at *
 omega

theorem halves' {y a b v0 q1 q0:Nat} (hy:0<y) (h1:a/y=q1) (h0:((a-q1*y)*b+v0)/y=q0) :
  (a*b+v0)/y=q1*b+q0∧(a*b+v0)%y=(a-q1*y)*b+v0-q0*y:=by
 have a1:=Nat.div_add_mod a y
 have b1:=Nat.mod_lt a hy
 rw [h1,Nat.mul_comm] at a1
 obtain ⟨r1,hr1⟩:∃r,r=a%y:=⟨_,rfl⟩
 rw [←hr1] at a1 b1
 have e1:a-q1*y=r1:=by omega
 rw [e1] at h0 ⊢
 have a0:=Nat.div_add_mod (r1*b+v0) y
 have b0:=Nat.mod_lt (r1*b+v0) hy
 rw [h0,Nat.mul_comm] at a0
 obtain ⟨r0,hr0⟩:∃r,r=(r1*b+v0)%y:=⟨_,rfl⟩
 rw [←hr0] at a0 b0
 have e0:r1*b+v0-q0*y=r0:=by omega
 rw [e0]
 have hN:a*b+v0=(q1*b+q0)*y+r0:=by
  have hp:q1*b*y=q1*y*b:=Nat.mul_right_comm _ _ _
  rw [Nat.add_mul,hp,←a1,Nat.add_mul]
  omega
 rw [hN]
 exact ⟨by rw [Nat.mul_comm,Nat.mul_add_div hy,Nat.div_eq_of_lt b0,Nat.add_zero],by rw [Nat.mul_comm,Nat.mul_add_mod];exact Nat.mod_eq_of_lt b0⟩

theorem o_kx {n y s:Nat}:n*2^s/(y*2^s)=n/y∧n*2^s%(y*2^s)/2^s=n%y:=by
 have hp:=Nat.two_pow_pos s
 refine ⟨Nat.mul_div_mul_right _ _ hp,?_⟩
 rw [Nat.mul_mod_mul_right,Nat.mul_div_cancel _ hp]

theorem o_ky {U D B P u1 d1:Nat} (hB:0<B) (hP:0<P) (hU:U/P=u1) (hD:d1*P≤D) (hd:0<d1):U/D≤u1/d1:=by
 rw [Nat.le_div_iff_mul_le hd]
 have hD0:0<D:=Nat.lt_of_lt_of_le (Nat.mul_pos hd hP) hD
 have h1:U/D*D≤U:=Nat.div_mul_le_self U D
 rw [←hU,Nat.le_div_iff_mul_le hP]
 calc U/D*d1*P=U/D*(d1*P):=Nat.mul_assoc _ _ _
  _≤U/D*D:=Nat.mul_le_mul_left _ hD
  _≤U:=h1

theorem o_kz {U D g w P M:Nat} (hM:M=18446744073709551616*P) (hD:D<P) (hD0:0<D) (hg:g≤18446744073709551615) (hw:w<M) (e:w+g*D=U+M) :
  0<g∧(M≤w+D→w+D-M+(g-1)*D=U∧w+D-M<D∧U/D=g-1∧U%D=w+D-M)∧(w+D<M→w+D+(g-1)*D=U+M∧P≤w+D):=by
 have hg0:0<g:=by
  rcases Nat.eq_zero_or_pos g with h | h
  ·subst h;omega
  ·exact h
 have e1:(g-1)*D+D=g*D:=by
  obtain ⟨k,rfl⟩:∃k,g=k+1:=⟨g-1,by omega⟩
  rw [Nat.add_sub_cancel,Nat.add_mul,Nat.one_mul]
 have e2:(g-1)*D≤18446744073709551614*P:=Nat.mul_le_mul (by omega) (by omega)
 obtain ⟨x,hx⟩:∃x,x=(g-1)*D:=⟨_,rfl⟩
 obtain ⟨y,hy⟩:∃y,y=g*D:=⟨_,rfl⟩
 refine ⟨hg0,fun h=>?_,fun h=>?_⟩
 ·have h1:w+D-M+(g-1)*D=U:=by rw [←hx] at e1 ⊢;rw [←hy] at e e1;clear hx hy e2;omega
  have h2:w+D-M<D:=by omega
  refine ⟨h1,h2,?_,?_⟩
  ·rw [←h1,Nat.add_mul_div_right _ _ hD0,Nat.div_eq_of_lt h2,Nat.zero_add]
  ·rw [←h1,Nat.add_mul_mod_self_right];exact Nat.mod_eq_of_lt h2
 ·rw [←hx] at e1 e2 ⊢;rw [←hy] at e e1
  clear hx hy
  subst hM
  constructor
  ·omega
  ·omega
theorem o_l0 {U D g w:Nat} (hD0:0<D) (hg:U/D≤g) (e:w+g*D=U):U/D=g∧U%D=w:=by
 have h:g≤U/D:=by rw [Nat.le_div_iff_mul_le hD0];omega
 have hq:U/D=g:=Nat.le_antisymm hg h
 have:=Nat.div_add_mod U D
 rw [hq,Nat.mul_comm] at this
 exact ⟨hq,by omega⟩

def shrL (k:Nat):List Nat→List Nat
 | []=>[]
 | x::l=>(x/2^k+l.getD 0 0*2^(64-k)%18446744073709551616)::shrL k l
theorem o_l1 (k:Nat):∀l,(shrL k l).length=l.length
 | []=>rfl
 | x::l=>by simp [shrL,o_l1 k l]
theorem o_l2:∀l:List Nat,small l→wval l%18446744073709551616=l.getD 0 0
 | [],_=>rfl
 | x::l,h=>by
  have:=h x (by simp)
  simp only [wval,List.getD_cons_zero]
  omega
theorem o_l3 {k:Nat} (hk:k<64):∀l:List Nat,small l→wval (shrL k l)=wval l/2^k∧small (shrL k l)
 | [],_=>⟨by simp [shrL,wval],by simp [shrL,small]⟩
 | x::l,h=>by
  have hl:small l:=fun y hy=>h y (by simp [hy])
  obtain ⟨h1,h2⟩:=o_l3 hk l hl
  have hx:=h x (by simp)
  have hhd:=o_l2 l hl
  have hB:(18446744073709551616:Nat)=2^k*2^(64-k):=by rw [←Nat.pow_add,show k+(64-k)=64 by omega]
  have hp:=Nat.two_pow_pos k
  have hp':=Nat.two_pow_pos (64-k)
  -- the part that comes from above
  have h3:l.getD 0 0*2^(64-k)%18446744073709551616=wval l%2^k*2^(64-k):=by
   rw [hB,Nat.mul_mod_mul_right,←hhd]
   congr 1
   rw [hB,Nat.mod_mul_right_mod]
  have h4:wval (x::l)/2^k=x/2^k+2^(64-k)*wval l:=by
   rw [wval]
   conv=>lhs;rw [hB]
   rw [Nat.mul_assoc,Nat.add_mul_div_left _ _ hp]
  have h5:2^(64-k)*wval l=18446744073709551616*(wval l/2^k)+wval l%2^k*2^(64-k):=by
   conv=>lhs;rw [←Nat.div_add_mod (wval l) (2^k)]
   rw [Nat.mul_add,←Nat.mul_assoc,Nat.mul_comm (2^(64-k)) (2^k),←hB,Nat.mul_comm (2^(64-k))]
  have h6:x/2^k<2^(64-k):=by
   rw [Nat.div_lt_iff_lt_mul hp,Nat.mul_comm,←hB];exact hx
  have h7:wval l%2^k*2^(64-k)+2^(64-k)≤18446744073709551616:=by
   have:=Nat.mul_le_mul_right (2^(64-k)) (Nat.succ_le_of_lt (Nat.mod_lt (wval l) hp))
   rw [Nat.succ_mul,←hB] at this
   exact this
  refine ⟨?_,?_⟩
  ·rw [h4,h5,shrL,wval,h1,h3]
   omega
  ·intro y hy
   rw [shrL,List.mem_cons] at hy
   rcases hy with rfl | hy
   ·rw [h3];omega
   ·exact h2 y hy
theorem o_l4:∀(q:Nat) (l:List Nat),small l→wval (l.drop q)=wval l/18446744073709551616^q
 | 0,l,_=>by simp
 | q+1,[],_=>by simp [wval]
 | q+1,x::l,h=>by
  have hx:=h x (by simp)
  rw [List.drop_succ_cons,o_l4 q l (fun y hy=>h y (by simp [hy])),wval,Nat.pow_succ,Nat.mul_comm (18446744073709551616^q),←Nat.div_div_eq_div_mul]
  congr 1
  omega
end
section
open Go.RowKit
theorem o_l5:∀i:Nat,i<256→(([0,1,2,2,3,3,3,3,4,4,4,4,4,4,4,4,5,5,5,5,5,5,5,5,5,5,5,5,5,5,5,5,6,6,6,6,6,6,6,6,6,6,6,6,6,6,6,6,6,6,6,6,6,6,6,6,6,6,6,6,6,6,6,6,7,7,7,7,7,7,7,7,7,7,7,7,7,7,7,7,7,7,7,7,7,7,7,7,7,7,7,7,7,7,7,7,7,7,7,7,7,7,7,7,7,7,7,7,7,7,7,7,7,7,7,7,7,7,7,7,7,7,7,7,7,7,7,7,8,8,8,8,8,8,8,8,8,8,8,8,8,8,8,8,8,8,8,8,8,8,8,8,8,8,8,8,8,8,8,8,8,8,8,8,8,8,8,8,8,8,8,8,8,8,8,8,8,8,8,8,8,8,8,8,8,8,8,8,8,8,8,8,8,8,8,8,8,8,8,8,8,8,8,8,8,8,8,8,8,8,8,8,8,8,8,8,8,8,8,8,8,8,8,8,8,8,8,8,8,8,8,8,8,8,8,8,8,8,8,8,8,8,8,8,8,8,8,8,8,8,8,8,8,8,8,8]:List UInt8)[i]?.getD 0).toNat=bitsN i:=by
 have h:((List.range 256).all fun i=>(([0,1,2,2,3,3,3,3,4,4,4,4,4,4,4,4,5,5,5,5,5,5,5,5,5,5,5,5,5,5,5,5,6,6,6,6,6,6,6,6,6,6,6,6,6,6,6,6,6,6,6,6,6,6,6,6,6,6,6,6,6,6,6,6,7,7,7,7,7,7,7,7,7,7,7,7,7,7,7,7,7,7,7,7,7,7,7,7,7,7,7,7,7,7,7,7,7,7,7,7,7,7,7,7,7,7,7,7,7,7,7,7,7,7,7,7,7,7,7,7,7,7,7,7,7,7,7,7,8,8,8,8,8,8,8,8,8,8,8,8,8,8,8,8,8,8,8,8,8,8,8,8,8,8,8,8,8,8,8,8,8,8,8,8,8,8,8,8,8,8,8,8,8,8,8,8,8,8,8,8,8,8,8,8,8,8,8,8,8,8,8,8,8,8,8,8,8,8,8,8,8,8,8,8,8,8,8,8,8,8,8,8,8,8,8,8,8,8,8,8,8,8,8,8,8,8,8,8,8,8,8,8,8,8,8,8,8,8,8,8,8,8,8,8,8,8,8,8,8,8,8,8,8,8,8,8]:List UInt8)[i]?.getD 0).toNat==bitsN i)=true:=by kernel_rfl
 intro i hi
 have:=List.all_eq_true.1 h i (List.mem_range.2 hi)
 exact eq_of_beq this

set_option maxHeartbeats 1000000 in
theorem o_l6 (x:Nat) (hx:x<18446744073709551616):Eqn Tryz.prog o_f2 [.d (.int .u64 x)] [] (.d (.int .i64 (bitsN x))) []:=by
 refine Eqn.pure o_f4 (o_5e _) ?_
 refine cc (c':=?z13) ?_ ?_
 case refine_1=>cbv<;>exact rfl
 obtain ⟨x1,n1,h1,hx1,hn1,e1⟩:∃x1 n1:Nat,(x1,n1)=(if 4294967296≤x then (x/4294967296,32) else (x,0))∧x1<4294967296∧n1≤32∧bitsN x=n1+bitsN x1:=by
  by_cases h:4294967296≤x
  ·exact ⟨x/4294967296,32,by rw [if_pos h],by omega,by omega,o_kp (k:=32) h⟩
  ·exact ⟨x,0,by rw [if_neg h],by omega,by omega,by omega⟩
 obtain ⟨x2,n2,h2,hx2,hn2,e2⟩:∃x2 n2:Nat,(x2,n2)=(if 65536≤x1 then (x1/65536,n1+16) else (x1,n1))∧x2<65536∧n2≤48∧bitsN x=n2+bitsN x2:=by
  by_cases h:65536≤x1
  ·exact ⟨x1/65536,n1+16,by rw [if_pos h],by omega,by omega,by have:=o_kp (k:=16) h;rw [e1,this];simp;omega⟩
  ·exact ⟨x1,n1,by rw [if_neg h],by omega,by omega,by omega⟩
 obtain ⟨x3,n3,h3,hx3,hn3,e3⟩:∃x3 n3:Nat,(x3,n3)=(if 256≤x2 then (x2/256,n2+8) else (x2,n2))∧x3<256∧n3≤56∧bitsN x=n3+bitsN x3:=by
  by_cases h:256≤x2
  ·exact ⟨x2/256,n2+8,by rw [if_pos h],by omega,by omega,by have:=o_kp (k:=8) h;rw [e2,this];simp;omega⟩
  ·exact ⟨x2,n2,by rw [if_neg h],by omega,by omega,by omega⟩
 rw [e3]
 clear e1 e2 e3
 refine AW.seq (AW.reg mix ?_)
 (simp -implicitDefEqProofs;try simp (disch:=omega) only [w64,wu64])
 refine AW.cut 0 [(0,.d (.int .u64 x1)),(2,.d (.int .i64 n1))] [] (by simp) (by simp) ?_ ?_
 ·have hd:(x:Int)/4294967296=(x/4294967296:Nat):=rfl
  refine G0 ?_;try with_reducible exact tt
  refine AW.cond rfl (fun h=>?_) (fun h=>?_)
  ·rw [if_pos (by simp at h;omega)] at h1
   cases h1
   generalize x/4294967296=q at *
   refine G1 hd ?_;try with_reducible exact tt
  ·rw [if_neg (by simp at h;omega)] at h1
   cases h1
   refine G0 ?_;try with_reducible exact tt
 clear h1 hx
 simp
 refine AW.cut 0 [(0,.d (.int .u64 x2)),(2,.d (.int .i64 n2))] [] (by simp) (by simp) ?_ ?_
 ·have hd:(x1:Int)/65536=(x1/65536:Nat):=rfl
  have ew:IntKind.i64.wrap ((n1:Int)+16)=((n1+16:Nat):Int):=w64 (by omega) (by omega)
  refine G0 ?_;try with_reducible exact tt
  refine AW.cond rfl (fun h=>?_) (fun h=>?_)
  ·rw [if_pos (by simp at h;omega)] at h2
   cases h2
   generalize x1/65536=q at *
   refine G1 (fs hd ew) ?_;try with_reducible exact tt
  ·rw [if_neg (by simp at h;omega)] at h2
   cases h2
   refine G0 ?_;try with_reducible exact tt
 clear h2 hx1 hn1
 simp
 refine AW.cut 0 [(0,.d (.int .u64 x3)),(2,.d (.int .i64 n3))] [] (by simp) (by simp) ?_ ?_
 ·have hd:(x2:Int)/256=(x2/256:Nat):=rfl
  have ew:IntKind.i64.wrap ((n2:Int)+8)=((n2+8:Nat):Int):=w64 (by omega) (by omega)
  refine G0 ?_;try with_reducible exact tt
  refine AW.cond rfl (fun h=>?_) (fun h=>?_)
  ·rw [if_pos (by simp at h;omega)] at h3
   cases h3
   generalize x2/256=q at *
   refine G1 (fs hd ew) ?_;try with_reducible exact tt
  ·rw [if_neg (by simp at h;omega)] at h3
   cases h3
   refine G0 ?_;try with_reducible exact tt
 clear h3 hx2 hn2
 simp
 have ew1:IntKind.u8.wrap (x3:Int)=x3:=by rw [show IntKind.u8.wrap (x3:Int)=(x3:Int)%256 from rfl];omega
 have hb:=o_l5 x3 hx3
 have hB:bitsN x3≤8:=o_ko (by omega)
 have ew2:IntKind.i64.wrap (bitsN x3:Int)=bitsN x3:=w64 (by omega) (by omega)
 have ew3:IntKind.i64.wrap ((n3:Int)+bitsN x3)=(n3:Int)+bitsN x3:=w64 (by omega) (by omega)
 refine AW.seq (AW.reg mix ?_)
 simp [ew1,hb,ew2,ew3]
 refine need.of (Nat.lt_of_lt_of_le hx3 (by decide)) ?_
 refine G0 ?_;try with_reducible exact tt

theorem o_l7 (x:Nat) (hx:x<18446744073709551616):Eqn Tryz.prog o_fe [.d (.int .u64 x)] [] (.d (.int .i64 (64-bitsN x:Nat))) []:=by
 refine Eqn.pure o_fg (o_5e _) ?_
 refine cc (c':=?z14) ?_ ?_
 case refine_1=>cbv<;>exact rfl
 have hB:bitsN x≤64:=o_ko (by omega)
 refine G0 ?_;try with_reducible exact tt
 refine CallS.pu (o_l6 x hx) (R0 ?_);try with_reducible exact tt
 exact Sub1.int (by omega)

theorem o_l8 {l:List Nat} {x:Nat} (hs:small l) (h0:0<x):bitsN (wval (l++[x]))=64*l.length+bitsN x:=by
 have hp:(18446744073709551616:Nat)^l.length=2^(64*l.length):=by rw [show (18446744073709551616:Nat)=2^64 by rfl,←Nat.pow_mul]
 have hlt:=o_ig hs
 have hv:wval (l++[x])=wval l+2^(64*l.length)*x:=by rw [o_ie,hp];simp [wval]
 rw [hp] at hlt
 rw [hv,o_kp (k:=64*l.length) (by have:=Nat.le_mul_of_pos_right (2^(64*l.length)) h0;omega),Nat.add_mul_div_left _ _ (Nat.two_pow_pos _),Nat.div_eq_of_lt hlt,Nat.zero_add]

theorem o_l9 (n:Nat) (hn:size n≤1000000):Eqn Tryz.prog o_gb [.d (.agg [natW n])] [] (.d (.int .i64 (bitsN n))) []:=by
 refine Eqn.pure o_gd (o_5e _) ?_
 refine cc (c':=?z15) ?_ ?_
 case refine_1=>cbv<;>exact rfl
 try simp only [natW,W]
 unfold size at hn
 have hs:=o_jc n
 have ht:=o_jd n
 have hv:=o_jb n
 generalize words n=ws at *
 rcases List.eq_nil_or_concat ws with rfl | ⟨l,x,rfl⟩
 ·refine G0 ?_;try with_reducible exact tt
  refine AW.cond rfl (fun h=>?_) (fun h=>?_)
  ·refine G0 ?_;try with_reducible exact tt
   rw [←hv]
   exact Sub1.refl _
  ·simp at h
 ·rw [List.concat_eq_append] at *
  have hx0:0<x:=by
   have:=ht l.length (by simp)
   simp [List.getD] at this
   omega
  have hx:x<18446744073709551616:=hs x (by simp)
  have hb:=o_l8 (l:=l) (x:=x) (fun y hy=>hs y (by simp [hy])) hx0
  rw [hv] at hb
  have hB:bitsN x≤64:=o_ko (by omega)
  have hll:l.length≤1000000:=by simp at hn;omega
  have e1:IntKind.i64.wrap ((l.length:Int)+1-1)=(l.length:Int):=by rw [Int.add_sub_cancel];exact w64 (by omega) (by omega)
  have e2:IntKind.i64.wrap ((64:Int)*l.length)=((64*l.length:Nat):Int):=w64 (by omega) (by omega)
  have e0:IntKind.i64.wrap (l.length:Int)=(l.length:Int):=w64 (by omega) (by omega)
  have hne:¬(l.length:Int)+1=0:=by omega
  refine G1 (fs hne (fs e1 (fs e2 e0))) ?_;try with_reducible exact tt
  refine AW.cond rfl (fun h=>?_) (fun h=>?_)
  ·simp at h
   omega
  rw [hb]
  have e3:IntKind.i64.wrap (((64*l.length:Nat):Int)+bitsN x)=((64*l.length+bitsN x:Nat):Int):=w64 (by omega) (by omega)
  generalize 64*l.length=q at *
  refine G1 (fs hne (fs e1 (fs e2 e0))) ?_;try with_reducible exact tt
  refine CallS.pu (o_l6 x hx) (R1 e3 ?_);try with_reducible exact tt

theorem o_la (n:Nat) (l:List D) (hl:l.length=n) (h0:0<n) (hn:n≤4000000000):Eqn Tryz.prog o_ee [.d (.sl n l)] [] (.own 0 1 n) [⟨105,l.map .d⟩]:=by
 refine Eqn.newX o_eg rfl (o_5m _) (fun n=>rfl) ?_
 refine cc (c':=?z16) ?_ ?_
 case refine_1=>cbv<;>exact rfl
 refine G1 h0 ?_;try with_reducible exact tt
 refine AW.cond rfl (fun h=>?_) (fun h=>?_)
 ·simp at h
 ·refine G0 ?_;try with_reducible exact tt
  have h1:¬n=0:=by omega
  simp [h1,hl]
  refine need.of (by omega) ?_
  refine G0 ?_;try with_reducible exact tt
  exact ⟨0,Sub1.refl _,_,rfl,rfl,Subs.refl _⟩

def shrI (k:Nat) (A:List Nat) (i:Nat):List Nat:=(shrL k A).take i++A.drop i
theorem o_lb (k:Nat):∀(A:List Nat) (i:Nat),i<A.length→(shrL k A).getD i 0=A.getD i 0/2^k+A.getD (i+1) 0*2^(64-k)%18446744073709551616
 | [],i,h=>by simp at h
 | x::l,0,h=>by simp [shrL]
 | x::l,i+1,h=>by
  have:=o_lb k l i (by simpa using h)
  simpa [shrL] using this
theorem o_lc (k:Nat) (A:List Nat) (i:Nat) (h:i≤A.length):(shrI k A i).length=A.length:=by
 rw [shrI,List.length_append,List.length_take,o_l1,List.length_drop];omega
theorem o_ld (k:Nat) (A:List Nat) (i j:Nat) (h:i≤j) (hj:j<A.length):(shrI k A i)[j]?=some (A.getD j 0):=by
 rw [shrI,List.getElem?_append_right (by rw [List.length_take,o_l1];omega),List.length_take,o_l1,List.getElem?_drop,show i+(j-min i A.length)=j by omega]
 simp [List.getD,hj]
theorem o_le (k:Nat) (A:List Nat) (i:Nat) (h:i<A.length) (y:Nat) (hy:y=(shrL k A).getD i 0):(shrI k A i).set i y=shrI k A (i+1):=by
 have hi:((shrL k A).take i).length=i:=by rw [List.length_take,o_l1];omega
 rw [shrI,shrI,List.set_append_right _ _ (by omega),hi,Nat.sub_self,o_ih _ _ (by rw [o_l1];exact h),←hy,List.append_assoc]
 congr 1
 rw [List.drop_eq_getElem_cons h]
 rfl
theorem o_lf (k:Nat) (A:List Nat):shrI k A A.length=shrL k A:=by
 rw [shrI,List.drop_length,List.append_nil,List.take_of_length_le (by rw [o_l1];omega)]

theorem o_lg {k x y:Nat} (hk:k<64) (hx:x<18446744073709551616):x/2^k ||| (y*2^(64-k)%18446744073709551616)=x/2^k+y*2^(64-k)%18446744073709551616:=by
 have hB:(18446744073709551616:Nat)=2^k*2^(64-k):=by rw [←Nat.pow_add,show k+(64-k)=64 by omega]
 have h6:x/2^k<2^(64-k):=by
  rw [Nat.div_lt_iff_lt_mul (Nat.two_pow_pos k),Nat.mul_comm,←hB];exact hx
 have e:y*2^(64-k)%18446744073709551616=2^(64-k)*(y%2^k):=by rw [hB,Nat.mul_mod_mul_right,Nat.mul_comm]
 rw [e,Nat.or_comm,←Nat.two_pow_add_eq_or_of_lt h6,Nat.add_comm]

set_option maxHeartbeats 2000000 in
theorem o_lh (a n:Nat) (ha:size a≤1000000) (hn:n≤1000000000):Eqn Tryz.prog o_fz [.d (.agg [natW a]),.d (.int .i64 n)] [] (.d (.agg [natW (a/2^n)])) []:=by
 refine Eqn.pure o_g1 (o_5e _) ?_
 refine cc (c':=?z17) ?_ ?_
 case refine_1=>cbv<;>exact rfl
 rw [show natW a = .sl (words a).length ((words a).map fun x:Nat=>.int .u64 x) from rfl]
 unfold size at ha
 have hs:=o_jc a
 have hv:=o_jb a
 generalize words a=ws at *
 have hm:max 0 (n:Int)=n:=by omega
 have hq:(n:Int)/64=(n/64:Nat):=rfl
 have hr:(n:Int).tmod 64=(n%64:Nat):=by rw [Int.tmod_eq_emod_of_nonneg (by omega)];rfl
 have hval:wval (shrL (n%64) (ws.drop (n/64)))=a/2^n∧small (shrL (n%64) (ws.drop (n/64))):=by
  obtain ⟨h1,h2⟩:=o_l3 (k:=n%64) (by omega) (ws.drop (n/64)) (fun x hx=>hs x (List.mem_of_mem_drop hx))
  refine ⟨?_,h2⟩
  rw [h1,o_l4 _ _ hs,hv,show (18446744073709551616:Nat)=2^64 by rfl,←Nat.pow_mul,Nat.div_div_eq_div_mul,←Nat.pow_add,Nat.div_add_mod]
 have hmk:n%64<64:=by omega
 have hqn:n/64≤n:=Nat.div_le_self _ _
 generalize hk:n%64=k at *
 generalize n/64=q at *
 refine G1 (fs hm hq) ?_;try with_reducible exact tt
 refine AW.cond rfl (fun h=>?_) (fun h=>?_)
 ·have hlen:ws.length≤q:=by simp at h;omega
  refine G0 ?_;try with_reducible exact tt
  rw [List.drop_of_length_le hlen] at hval
  rw [←hval.1]
  exact Sub1.nat0
 ·have hlt:q<ws.length:=by simp at h;omega
  have hlt':(q:Int)<ws.length:=by omega
  have hb1:((ws.length:Int)-q).toNat=(ws.drop q).length:=by rw [List.length_drop];omega
  have hbp:0<(ws.drop q).length∧(ws.drop q).length≤1000000:=by rw [List.length_drop];omega
  have hsB:small (ws.drop q):=fun x hx=>hs x (List.mem_of_mem_drop hx)
  have htk:(V.d (.sl ((ws.length:Int)-q).toNat (((ws.map fun x:Nat=>D.int .u64 x).drop ((q:Int)).toNat).take ((ws.length:Int)-q).toNat)):V) = .d (.sl (ws.drop q).length ((ws.drop q).map fun x:Nat=>D.int .u64 x)):=by
   rw [hb1,Int.toNat_natCast,←List.map_drop,List.take_of_length_le (by simp)]
  refine G1 (fs hm (fs hq hlt')) ?_;try with_reducible exact tt
  generalize hB:ws.drop q=B at *
  refine CallS.newX (o_la B.length (B.map fun x:Nat=>.int .u64 x) (by simp) hbp.1 (by omega)) (o_5m _) rfl (fun _=>rfl) (Subs.of (by rw [htk])) ?_
  rw [show ((B.map fun x:Nat=>D.int .u64 x).map V.d)=U (shrI k B 0) by simp [U,shrI]]
  simp
  refine G1 hr ?_;try with_reducible exact tt
  clear htk hb1 hv hs ha hB hlt hlt'
  refine AW.loopT (α:=Nat) 3 (fun i=>[(6,.d (.int .i64 (i:Int)))]) (fun i=>[(2,⟨105,U (shrI k B i)⟩)]) (fun i=>i≤B.length) (fun i=>B.length-i) 0 ?_ ?_ (Nat.zero_le _) ?_ ?_ ?_
  ·simp
  ·simp
  ·simp
  ·simp
  rintro i hi
  simp
  by_cases h:i=B.length
  ·subst h
   refine G0 ?_;try with_reducible exact tt
   refine AW.cond rfl (fun h=>?_) (fun h=>?_)
   ·simp at h
   refine AW.exit ?_
   (try (simp -implicitDefEqProofs;try simp (disch:=omega) only [w64,wu64]))
   rw [o_lf]
   have hl:(shrL k B).length=B.length:=o_l1 k B
   have hvw:natW (a/2^n)=natW (wval (shrL k B)):=by rw [hval.1]
   rw [hvw]
   have hsm:=hval.2
   generalize shrL k B=r at hl hsm ⊢
   have hcell:U r=(r.map fun x:Nat=>D.int .u64 x).map V.d:=by simp [U]
   rw [hcell]
   refine AW.freeze 2 1 ⟨105,_⟩ (r.map fun x:Nat=>.int .u64 x) (by rfl) (by rfl) ?_
   simp [←hl,List.take_of_length_le]
   refine G0 ?_;try with_reducible exact tt
   refine CallS.pu (o_jk r hsm (by omega)) (R0 ?_);try with_reducible exact tt
  ·have hi':i<B.length:=by omega
   have hp:(i:Int)<B.length:=by omega
   have hxB:B.getD i 0<18446744073709551616:=hsB.getD i
   have hset:∀z:Nat,z=(shrL k B).getD i 0→(U (shrI k B i)).set i (.d (.int .u64 z))=U (shrI k B (i+1)):=fun z hz=>by
    rw [←o_le k B i hi' z hz,U,U,List.map_set]
   have hg:=o_lb k B i hi'
   have hl:(U (shrI k B i)).length=B.length:=by simp [U,o_lc k B i hi]
   have hq1:(U (shrI k B i))[i]?=some (.d (.int .u64 (B.getD i 0:Nat))):=by
    rw [U,List.getElem?_map,o_ld k B i i (Nat.le_refl _) hi'];rfl
   have hq2:i+1<B.length→(U (shrI k B i))[i+1]?=some (.d (.int .u64 (B.getD (i+1) 0:Nat))):=fun h=>by
    rw [U,List.getElem?_map,o_ld k B i (i+1) (by omega) h];rfl
   have hor:=o_lg (k:=k) (x:=B.getD i 0) (y:=B.getD (i+1) 0) hmk hxB
   rw [←hg] at hor
   have hu:((B.getD i 0:Nat):Int)/2^k=((B.getD i 0/2^k:Nat):Int):=by rw [Int.natCast_ediv,Int.natCast_pow];rfl
   have hule:B.getD i 0/2^k≤B.getD i 0:=Nat.div_le_self _ _
   have hw:IntKind.u64.wrap (((B.getD (i+1) 0:Nat):Int)*2^(64-k))=((B.getD (i+1) 0*2^(64-k)%18446744073709551616:Nat):Int):=by
    rw [IntKind.wrap_u64,Int.natCast_emod,Int.natCast_mul,Int.natCast_pow];rfl
   have hwl:B.getD (i+1) 0*2^(64-k)%18446744073709551616<18446744073709551616:=Nat.mod_lt _ (by decide)
   have hlast:¬i+1<B.length→B.getD i 0/2^k=(shrL k B).getD i 0:=fun h=>by
    rw [hg,o_js h];simp
   have hls:(shrL k B).length=B.length:=o_l1 k B
   generalize B.getD i 0/2^k=u at *
   generalize B.getD i 0=x at *
   generalize B.getD (i+1) 0*2^(64-k)%18446744073709551616=t at *
   generalize B.getD (i+1) 0=y at *
   have hb:=bits_or_u64_nat u t (by omega) hwl
   rw [hor] at hb
   have hz:=hset _ rfl
   generalize (shrL k B).getD i 0=z at *
   generalize U (shrI k B i)=cm at *
   have e1:IntKind.i64.wrap ((i:Int)+1)=(i:Int)+1:=w64 (by omega) (by omega)
   have e2:IntKind.i64.wrap ((64:Int)-k)=(64:Int)-k:=w64 (by omega) (by omega)
   have hn:((64:Int)-k).toNat=64-k:=by omega
   have e3:(((i:Int)+1)).toNat=i+1:=by omega
   have hkl:(k:Int)≤64:=by omega
   have hg1:∀h,cm[i]'h = .d (.int .u64 x):=fun h=>by
    have:=List.getElem?_eq_getElem h
    rw [hq1] at this
    exact (Option.some.inj this).symm
   have hg2:∀h,cm[i+1]'h = .d (.int .u64 y):=fun h=>by
    have:=List.getElem?_eq_getElem h
    rw [hq2 (by omega)] at this
    exact (Option.some.inj this).symm
   refine G1 (fs hi' hp) ?_;try with_reducible exact tt
   refine AW.cond rfl (fun h=>?_) (fun h=>?_)
   ·by_cases hl1:i+1<B.length
    ·have hlp:(i:Int)+1<B.length:=by omega
     refine G1 (fs hi' (fs hp (fs hl (fs hg1 (fs hu (fs e1 hlp)))))) ?_;try with_reducible exact tt
     refine AW.cond rfl (fun h=>?_) (fun h=>?_)
     ·have hne:¬i=i+1:=by omega
      have h64:(64-k:Int)≤64:=by omega
      refine G1 (fs hi' (fs hp (fs hl (fs hg1 (fs hg2 (fs hu (fs e1 (fs hlp (fs hl1 (fs e2 (fs hn (fs e3 (fs hne (fs hw (fs hb hz))))))))))))))) ?_;try with_reducible exact tt
      exact ⟨i+1,by omega,by omega,by simp,by simp⟩
     ·simp at h
    ·have hlp:¬(i:Int)+1<B.length:=by omega
     refine G1 (fs hi' (fs hp (fs hl (fs hg1 (fs hu (fs e1 hlp)))))) ?_;try with_reducible exact tt
     refine AW.cond rfl (fun h=>?_) (fun h=>?_)
     ·simp at h
     ·have:=hlast hl1
      subst this
      refine G1 e1 ?_;try with_reducible exact tt
      refine ⟨i+1,by omega,by omega,by simp,?_⟩
      rw [hset u rfl]
      exact Subs.refl _
   ·simp at h
end
section
open Go.RowKit
theorem and32 (x:Nat) (h:x<18446744073709551616):bits BinOp.and IntKind.u64 (x:Int) 4294967295=((x%4294967296:Nat):Int):=by
 have:=bits_and_u64_nat x 4294967295 h (by omega)
 rw [show ((4294967295:Nat):Int)=4294967295 by rfl] at this
 rw [this,show (4294967295:Nat)=2^32-1 by rfl,Nat.and_two_pow_sub_one_eq_mod]

theorem o_li (x y:Nat) (hx:x<18446744073709551616) (hy:y<18446744073709551616) :
  let x0:=x%4294967296;let x1:=x/4294967296;let y0:=y%4294967296;let y1:=y/4294967296
  let w0:=x0*y0;let t:=x1*y0+w0/4294967296;let w1:=t%4294967296+x0*y1
  w0<18446744073709551616∧x1*y0<18446744073709551616∧t<18446744073709551616∧x0*y1<18446744073709551616∧w1<18446744073709551616∧x1*y1<18446744073709551616 ∧
  x1*y1+t/4294967296<18446744073709551616∧x1*y1+t/4294967296+w1/4294967296<18446744073709551616 ∧
  x*y=(x1*y1+t/4294967296+w1/4294967296)*18446744073709551616+x*y%18446744073709551616:=by
 intro x0 x1 y0 y1 w0 t w1
 have hx0:x0<4294967296:=Nat.mod_lt _ (by decide)
 have hy0:y0<4294967296:=Nat.mod_lt _ (by decide)
 have hx1:x1<4294967296:=by simp only [x1];omega
 have hy1:y1<4294967296:=by simp only [y1];omega
 have ex:x=x1*4294967296+x0:=by simp only [x1,x0];omega
 have ey:y=y1*4294967296+y0:=by simp only [y1,y0];omega
 have b:∀{a c:Nat},a<4294967296→c<4294967296→a*c≤18446744065119617025:=fun {a c} ha hc=>by
  have:=Nat.mul_le_mul (show a≤4294967295 by omega) (show c≤4294967295 by omega)
  omega
 have b00:=b hx0 hy0
 have b10:=b hx1 hy0
 have b01:=b hx0 hy1
 have b11:=b hx1 hy1
 have exy:x*y=x1*y1*18446744073709551616+(x1*y0+x0*y1)*4294967296+x0*y0:=by
  rw [ex,ey]
  simp only [Nat.add_mul,Nat.mul_add]
  have e1:x1*4294967296*(y1*4294967296)=x1*y1*18446744073709551616:=by
   rw [Nat.mul_mul_mul_comm]
  have e2:x1*4294967296*y0=x1*y0*4294967296:=by rw [Nat.mul_right_comm]
  have e3:x0*(y1*4294967296)=x0*y1*4294967296:=by rw [Nat.mul_assoc]
  rw [e1,e2,e3];omega
 have hw0:w0=x0*y0:=rfl
 generalize x*y=xy at exy ⊢
 generalize x0*y0=a00 at *
 have ht:t=x1*y0+w0/4294967296:=rfl
 generalize x1*y0=a10 at *
 have hw1:w1=t%4294967296+x0*y1:=rfl
 generalize x0*y1=a01 at *
 generalize x1*y1=a11 at *
 clear_value w0 t w1
 omega

theorem o_lj (x y:Nat) (hx:x<18446744073709551616) (hy:y<18446744073709551616):Eqn Tryz.prog o_eb [.d (.int .u64 x),.d (.int .u64 y)] [] (.tup [.d (.int .u64 (x*y/18446744073709551616:Nat)),.d (.int .u64 (x*y%18446744073709551616:Nat))]) []:=by
 refine Eqn.pure o_ed (o_k0 _ _) ?_
 refine cc (c':=?z18) ?_ ?_
 case refine_1=>cbv<;>exact rfl
 have hp:=o_li x y hx hy
 simp only at hp
 have a1:=and32 x hx
 have a2:=and32 y hy
 have d1:(x:Int)/4294967296=(x/4294967296:Nat):=rfl
 have d2:(y:Int)/4294967296=(y/4294967296:Nat):=rfl
 have l1:x%4294967296<4294967296:=Nat.mod_lt _ (by decide)
 generalize x%4294967296=x0 at hp a1 l1
 generalize x/4294967296=x1 at hp d1
 generalize y%4294967296=y0 at hp a2
 generalize y/4294967296=y1 at hp d2
 obtain ⟨p1,p2,p3,p4,p5,p6,p7,p8,p9⟩:=hp
 have m1:IntKind.u64.wrap ((x0:Int)*y0)=(x0*y0:Nat):=by rw [←Int.natCast_mul];exact wu64 (by omega) (by omega)
 have m2:IntKind.u64.wrap ((x1:Int)*y0)=(x1*y0:Nat):=by rw [←Int.natCast_mul];exact wu64 (by omega) (by omega)
 have m3:IntKind.u64.wrap ((x0:Int)*y1)=(x0*y1:Nat):=by rw [←Int.natCast_mul];exact wu64 (by omega) (by omega)
 have m4:IntKind.u64.wrap ((x1:Int)*y1)=(x1*y1:Nat):=by rw [←Int.natCast_mul];exact wu64 (by omega) (by omega)
 have m5:IntKind.u64.wrap ((x:Int)*y)=(x*y%18446744073709551616:Nat):=by rw [IntKind.wrap_u64,Int.natCast_emod,Int.natCast_mul];rfl
 have lo:x*y%18446744073709551616<18446744073709551616:=Nat.mod_lt _ (by decide)
 generalize x*y%18446744073709551616=low at *
 generalize x*y=xy at *
 generalize x0*y0=a00 at *
 generalize x1*y0=a10 at *
 generalize x0*y1=a01 at *
 generalize x1*y1=a11 at *
 have q1:(a00:Int)/4294967296=(a00/4294967296:Nat):=rfl
 generalize a00/4294967296=b0 at *
 have s1:IntKind.u64.wrap ((a10:Int)+b0)=(a10+b0:Nat):=wu64 (by omega) (by omega)
 have a3:=and32 (a10+b0) p3
 have q2:((a10+b0:Nat):Int)/4294967296=((a10+b0)/4294967296:Nat):=rfl
 generalize (a10+b0)/4294967296=t1 at *
 generalize (a10+b0)%4294967296=t0 at *
 generalize a10+b0=t at *
 have s2:IntKind.u64.wrap ((t0:Int)+a01)=(t0+a01:Nat):=wu64 (by omega) (by omega)
 have q3:((t0+a01:Nat):Int)/4294967296=((t0+a01)/4294967296:Nat):=rfl
 generalize (t0+a01)/4294967296=v1 at *
 generalize t0+a01=v at *
 have s3:IntKind.u64.wrap ((a11:Int)+t1)=(a11+t1:Nat):=wu64 (by omega) (by omega)
 have s4:IntKind.u64.wrap (((a11+t1:Nat):Int)+v1)=(a11+t1+v1:Nat):=wu64 (by omega) (by omega)
 have fin:xy/18446744073709551616=a11+t1+v1:=by omega
 rw [fin]
 generalize a11+t1+v1=hi at *
 generalize a11+t1=r at *
 refine G1 (fs a1 (fs a2 (fs d1 (fs d2 (fs m1 (fs m2 (fs m3 (fs m4 (fs m5 (fs q1 (fs s1 (fs a3 (fs q2 (fs s2 (fs q3 (fs s3 s4)))))))))))))))) ?_;try with_reducible exact tt
end
section
open Go.RowKit
theorem o_lk (hi lo y:Nat) (h0:hi<y) (hl:lo<18446744073709551616) (hy:y<18446744073709551616) :
  ∃s Y u v:Nat,s=64-bitsN y∧s≤63∧y*2^s=Y∧Y<18446744073709551616∧9223372036854775808≤Y∧hi*2^s<18446744073709551616∧hi*2^s ||| lo/2^(64-s)=u∧lo*2^s%18446744073709551616=v∧u<Y∧v<18446744073709551616 ∧
   (hi*18446744073709551616+lo)*2^s=u*18446744073709551616+v:=by
 obtain ⟨b1,b2⟩:=o_kq (n:=y) (by omega)
 have b3:=o_kn y
 have b4:bitsN y≤64:=o_ko (by omega)
 have hs:64-bitsN y≤63:=by omega
 have hY1:y*2^(64-bitsN y)<18446744073709551616:=by
  have:2^bitsN y*2^(64-bitsN y)=18446744073709551616:=by rw [←Nat.pow_add,show bitsN y+(64-bitsN y)=64 by omega]
  rw [←this]
  exact Nat.mul_lt_mul_of_pos_right b3 (Nat.two_pow_pos _)
 have hY2:9223372036854775808≤y*2^(64-bitsN y):=by
  have:2^(bitsN y-1)*2^(64-bitsN y)=9223372036854775808:=by rw [←Nat.pow_add,show bitsN y-1+(64-bitsN y)=63 by omega]
  rw [←this]
  exact Nat.mul_le_mul_right _ b1
 generalize 64-bitsN y=s at *
 have hB:(18446744073709551616:Nat)=2^s*2^(64-s):=by rw [←Nat.pow_add,show s+(64-s)=64 by omega]
 have hp:=Nat.two_pow_pos s
 have hp':=Nat.two_pow_pos (64-s)
 have hh:hi*2^s<y*2^s:=Nat.mul_lt_mul_of_pos_right h0 hp
 have hlq:lo/2^(64-s)<2^s:=by rw [Nat.div_lt_iff_lt_mul hp',←hB];exact hl
 have hor:hi*2^s ||| lo/2^(64-s)=hi*2^s+lo/2^(64-s):=by
  rw [Nat.mul_comm,←Nat.two_pow_add_eq_or_of_lt hlq]
 have hlo:lo*2^s=lo/2^(64-s)*18446744073709551616+lo*2^s%18446744073709551616:=by
  have h1:lo*2^s/18446744073709551616=lo/2^(64-s):=by
   conv=>lhs;rw [hB]
   rw [Nat.mul_comm lo,Nat.mul_div_mul_left _ _ hp]
  have h2:=Nat.div_add_mod (lo*2^s) 18446744073709551616
  rw [h1] at h2
  omega
 have hlm:lo*2^s%18446744073709551616<18446744073709551616:=Nat.mod_lt _ (by decide)
 have hN:(hi*18446744073709551616+lo)*2^s=(hi*2^s)*18446744073709551616+lo*2^s:=by
  rw [Nat.add_mul,Nat.mul_right_comm]
 refine ⟨s,y*2^s,hi*2^s+lo/2^(64-s),lo*2^s%18446744073709551616,rfl,hs,rfl,hY1,hY2,by omega,hor,rfl,?_,hlm,?_⟩
 ·have h1:(hi+1)*2^s≤y*2^s:=Nat.mul_le_mul_right _ h0
  rw [Nat.add_mul,Nat.one_mul] at h1
  omega
 ·rw [hN,hlo,Nat.add_mul]
  generalize lo*2^s%18446744073709551616=a at *
  generalize lo/2^(64-s)=b at *
  generalize hi*2^s=c at *
  omega

def hInv (Y1 Y0 u v:Nat) (q r:Nat):Prop:=q*Y1+r=u∧u*4294967296+v<(q+1)*(Y1*4294967296+Y0)∧r<4294967296

theorem o_ll {Y1 Y0 u v:Nat} (h1:0<Y1) (h2:Y1<4294967296) (hv:v<4294967296):hInv Y1 Y0 u v (u/Y1) (u%Y1):=by
 refine ⟨?_,o_kw h1 hv,?_⟩
 ·rw [Nat.mul_comm];exact Nat.div_add_mod u Y1
 ·have:=Nat.mod_lt u h1;omega

set_option maxHeartbeats 8000000 in
theorem o_lm (hi lo y:Nat) (h0:hi<y) (hl:lo<18446744073709551616) (hy:y<18446744073709551616):Eqn Tryz.prog o_eh [.d (.int .u64 hi),.d (.int .u64 lo),.d (.int .u64 y)] [] (.tup [.d (.int .u64 ((hi*18446744073709551616+lo)/y:Nat)),.d (.int .u64 ((hi*18446744073709551616+lo)%y:Nat))]) []:=by
 rcases Nat.eq_zero_or_pos hi with rfl | hpos
 ·rw [Nat.zero_mul,Nat.zero_add]
  exact o_kj lo y hl (by omega)
 refine Eqn.pure o_ej (o_k0 _ _) ?_
 refine cc (c':=?z19) ?_ ?_
 case refine_1=>cbv<;>exact rfl
 obtain ⟨s,Y,u,v,hs,hs63,hY,hYl,hYg,hhs,hor,hv,hu,hvl,hN⟩:=o_lk hi lo y h0 hl hy
 have hq:(hi*18446744073709551616+lo)/y=(u*18446744073709551616+v)/Y:=by rw [←hN,←hY];exact o_kx.1.symm
 have hr:(hi*18446744073709551616+lo)%y=(u*18446744073709551616+v)%Y/2^s:=by rw [←hN,←hY];exact o_kx.2.symm
 rw [hq,hr]
 clear hq hr hN
 obtain ⟨Qf,hQf⟩:∃Qf,Qf=(u*18446744073709551616+v)/Y:=⟨_,rfl⟩
 obtain ⟨Rf,hRf⟩:∃Rf,Rf=(u*18446744073709551616+v)%Y/2^s:=⟨_,rfl⟩
 rw [←hQf,←hRf]
 have h1:¬y=0:=by omega
 have h2:¬(y:Int)≤hi:=by omega
 have h3:¬hi=0:=by omega
 have h1':¬(y:Int)=0:=by omega
 have h3':¬(hi:Int)=0:=by omega
 refine G1 (fs h1 h1') ?_;try with_reducible exact tt
 refine AW.cond rfl (fun h=>?_) (fun h=>?_)
 ·simp [h1] at h
 refine G1 h2 ?_;try with_reducible exact tt
 refine AW.cond rfl (fun h=>?_) (fun h=>?_)
 ·simp [h2] at h
 refine G1 (fs h3 h3') ?_;try with_reducible exact tt
 refine AW.cond rfl (fun h=>?_) (fun h=>?_)
 ·simp [h3] at h
 refine G0 ?_;try with_reducible exact tt
 have hlead:=o_l7 y hy
 rw [←hs] at hlead
 have hq1':=Nat.div_add_mod Y 4294967296
 have hY0':Y%4294967296<4294967296:=Nat.mod_lt _ (by decide)
 have hv':=Nat.div_add_mod v 4294967296
 have hv0':v%4294967296<4294967296:=Nat.mod_lt _ (by decide)
 have f1:IntKind.u64.wrap (s:Int)=s:=wu64 (by omega) (by omega)
 have f2:IntKind.u64.wrap ((y:Int)*2^s)=Y:=by
  rw [show (y:Int)*2^s=((y*2^s:Nat):Int) by rw [Int.natCast_mul,Int.natCast_pow];rfl,hY];exact wu64 (by omega) (by omega)
 have f3:(Y:Int)/4294967296=(Y/4294967296:Nat):=rfl
 have f4:=and32 Y hYl
 have f5:IntKind.u64.wrap ((hi:Int)*2^s)=(hi*2^s:Nat):=by
  rw [show (hi:Int)*2^s=((hi*2^s:Nat):Int) by rw [Int.natCast_mul,Int.natCast_pow];rfl];exact wu64 (by omega) (by omega)
 have f6:IntKind.u64.wrap ((64:Int)-s)=(64:Int)-s:=wu64 (by omega) (by omega)
 have f7:((64:Int)-s).toNat=64-s:=by omega
 have f8:(lo:Int)/2^(64-s)=(lo/2^(64-s):Nat):=by rw [Int.natCast_ediv,Int.natCast_pow];rfl
 have hll:lo/2^(64-s)≤lo:=Nat.div_le_self _ _
 have f9:=bits_or_u64_nat (hi*2^s) (lo/2^(64-s)) hhs (by omega)
 rw [hor] at f9
 have f10:IntKind.u64.wrap ((lo:Int)*2^s)=v:=by
  rw [IntKind.wrap_u64,show (lo:Int)*2^s=((lo*2^s:Nat):Int) by rw [Int.natCast_mul,Int.natCast_pow];rfl,←hv];rfl
 have f11:(v:Int)/4294967296=(v/4294967296:Nat):=rfl
 have f12:=and32 v hvl
 have f13:(s:Int)≤64:=by omega
 have f14:(0:Int)≤64-s:=by omega
 have f15:(64:Int)-s≤64:=by omega
 generalize Y/4294967296=Y1 at *
 generalize Y%4294967296=Y0 at *
 generalize v/4294967296=v1 at *
 generalize v%4294967296=v0 at *
 generalize hi*2^s=h' at *
 generalize lo/2^(64-s)=l' at *
 have hYY:Y=Y1*4294967296+Y0:=by omega
 have hvv:v=v1*4294967296+v0:=by omega
 have hY1:2147483648≤Y1:=by omega
 have hY1l:Y1<4294967296:=by omega
 have hY0:Y0<4294967296:=by omega
 have hv1:v1<4294967296:=by omega
 have hv0:v0<4294967296:=by omega
 have hYn:¬(Y1:Int)=0:=by omega
 have hYn':¬Y1=0:=by omega
 have huq:=Nat.div_add_mod u Y1
 have hqle:u/Y1≤u:=Nat.div_le_self _ _
 have g1:IntKind.u64.wrap ((u:Int)/Y1)=(u/Y1:Nat):=by rw [←Int.natCast_ediv];generalize u/Y1=q at *;exact wu64 (by omega) (by omega)
 have g2:IntKind.u64.wrap (((u/Y1:Nat):Int)*Y1)=(u/Y1*Y1:Nat):=by
  rw [Nat.mul_comm] at huq
  rw [←Int.natCast_mul];generalize u/Y1*Y1=q at *;exact wu64 (by omega) (by omega)
 have g3:IntKind.u64.wrap ((u:Int)-(u/Y1*Y1:Nat))=(u%Y1:Nat):=by
  rw [Nat.mul_comm] at huq
  generalize u/Y1*Y1=q at *
  generalize u%Y1=r at *
  rw [wu64 (by omega) (by omega)];omega
 obtain ⟨q1,hq1⟩:∃q1,q1=(u*4294967296+v1)/Y:=⟨_,rfl⟩
 have gA:IntKind.u64.wrap ((u:Int)-IntKind.u64.wrap ((u:Int)/Y1*Y1))=(u:Int)%Y1:=by
  have h1:((u:Int)/Y1*Y1)=((u/Y1:Nat):Int)*Y1:=by rw [Int.natCast_ediv]
  rw [h1,g2,g3,Int.natCast_emod]
 refine G0 ?_;try with_reducible exact tt
 refine CallS.pu (hlead) (R1 (fs f1 (fs f2 (fs f3 (fs f4 (fs f5 (fs f6 (fs f7 (fs f8 (fs f9 (fs f10 (fs f11 (fs f12 (fs f13 (fs f14 (fs f15 (fs hYn (fs hYn' g1))))))))))))))))) ?_);try with_reducible exact tt
 refine AW.blockCut 0 [(15,.d (.int .u64 q1))] [] (by simp) (by simp) ?_ ?_
 ·-- the half digit 15
  refine AW.loopT (α:=Nat×Nat) 0 (fun a=>[(15,.d (.int .u64 (a.1:Int))),(16,.d (.int .u64 (a.2:Int)))]) (fun _=>[]) (fun a=>hInv Y1 Y0 u v1 a.1 a.2) (fun a=>a.1) (u/Y1,u%Y1) (by simp) (by simp) (o_ll (by omega) (by omega) (by omega)) (by simp [gA]) (by simp) ?_
  rintro ⟨q,r⟩ ⟨i1,i2,i3⟩
  simp only at i1 i2 i3
  have hqY:q*2147483648≤q*Y1:=Nat.mul_le_mul_left _ hY1
  have hend:q*Y0≤r*4294967296+v1→q1=q:=fun h=>by rw [hq1,hYY];exact o_kt i1 h i2
  have hnext:(4294967296≤q∨r*4294967296+v1<q*Y0)→0<q∧(q-1)*Y1+(r+Y1)=u∧u*4294967296+v1<(q-1+1)*(Y1*4294967296+Y0):=fun h=>o_ku i1 (by omega) (by omega) h
  have hstep:∀(T:List V) ,(4294967296≤q∨r*4294967296+v1<q*Y0)→0<q∧hInv Y1 Y0 u v1 (q-1) (r+Y1)∨(0<q∧4294967296≤r+Y1∧q1=q-1):=fun _ h=>by
   obtain ⟨n1,n2,n3⟩:=hnext h
   rcases Nat.lt_or_ge (r+Y1) 4294967296 with h1 | h1
   ·exact .inl ⟨n1,n2,n3,h1⟩
   ·refine .inr ⟨n1,h1,?_⟩
    rw [hq1,hYY]
    exact o_kt n2 (o_kv n2 (by omega) hY0 h1 _) n3
  have b1:IntKind.u64.wrap ((r:Int)+Y1)=((r+Y1:Nat):Int):=wu64 (by omega) (by omega)
  have body:(4294967296≤q∨r*4294967296+v1<q*Y0)→IntKind.u64.wrap ((q:Int)-1)=((q-1:Nat):Int):=fun h=>by
   have:=(hnext h).1
   rw [wu64 (by omega) (by omega)];omega
  by_cases c1:4294967296≤q
  ·have c1':(4294967296:Int)≤q:=by omega
   refine G1 c1' ?_;try with_reducible exact tt
   refine AW.cond rfl (fun h=>?_) (fun h=>?_)
   ·have e1:=body (.inl c1)
    rcases hstep [] (.inl c1) with ⟨n1,n2⟩ | ⟨n1,n2,n3⟩
    ·have n4:¬(4294967296:Int)≤((r+Y1:Nat):Int):=by have:=n2.2.2;omega
     generalize hr':r+Y1=r' at *
     generalize hq':q-1=q' at *
     refine G1 (fs e1 (fs b1 n4)) ?_;try with_reducible exact tt
     refine AW.cond rfl (fun h=>?_) (fun h=>?_)
     ·first | (simp [n4] at h;done) | (simp [n4] at h;omega)
     refine G0 ?_;try with_reducible exact tt
     exact ⟨q',r',n2,by omega,by simp,by simp⟩
    ·have n4:(4294967296:Int)≤((r+Y1:Nat):Int):=by omega
     generalize hr':r+Y1=r' at *
     generalize hq':q-1=q' at *
     refine G1 (fs e1 (fs b1 n4)) ?_;try with_reducible exact tt
     refine AW.cond rfl (fun h=>?_) (fun h=>?_)
     ·refine AW.exit ?_
      (try (simp -implicitDefEqProofs;try simp (disch:=omega) only [w64,wu64]))
      rw [n3]
      exact Sub1.refl _
     ·first | (simp at h;done) | (simp at h;omega)
   ·simp [c1'] at h
  ·have c1':¬(4294967296:Int)≤q:=by omega
   have hqy:q*Y0≤4294967295*4294967295:=Nat.mul_le_mul (by omega) (by omega)
   have e1:IntKind.u64.wrap ((q:Int)*Y0)=((q*Y0:Nat):Int):=by rw [←Int.natCast_mul];exact wu64 (by omega) (by omega)
   have e2:IntKind.u64.wrap (4294967296*(r:Int))=((4294967296*r:Nat):Int):=wu64 (by omega) (by omega)
   have e3:IntKind.u64.wrap (((4294967296*r:Nat):Int)+v1)=((4294967296*r+v1:Nat):Int):=wu64 (by omega) (by omega)
   by_cases c2:r*4294967296+v1<q*Y0
   ·have c2':((4294967296*r+v1:Nat):Int)<((q*Y0:Nat):Int):=by omega
    have e4:=body (.inr c2)
    have hs:=hstep [] (.inr c2)
    clear hend hnext hstep body
    generalize q*Y0=m at *
    generalize 4294967296*r=m2 at *
    generalize m2+v1=m3 at *
    refine G1 (fs c1' (fs e1 (fs e2 (fs e3 c2')))) ?_;try with_reducible exact tt
    refine AW.cond rfl (fun h=>?_) (fun h=>?_)
    ·rcases hs with ⟨n1,n2⟩ | ⟨n1,n2,n3⟩
     ·have n4:¬(4294967296:Int)≤((r+Y1:Nat):Int):=by have:=n2.2.2;omega
      generalize hr':r+Y1=r' at *
      generalize hq':q-1=q' at *
      refine G1 (fs e4 (fs b1 n4)) ?_;try with_reducible exact tt
      refine AW.cond rfl (fun h=>?_) (fun h=>?_)
      ·first | (simp at h;done) | (simp at h;omega)
      refine G0 ?_;try with_reducible exact tt
      exact ⟨q',r',n2,by omega,by simp,by simp⟩
     ·have n4:(4294967296:Int)≤((r+Y1:Nat):Int):=by omega
      generalize hr':r+Y1=r' at *
      generalize hq':q-1=q' at *
      refine G1 (fs e4 (fs b1 n4)) ?_;try with_reducible exact tt
      refine AW.cond rfl (fun h=>?_) (fun h=>?_)
      ·refine AW.exit ?_
       (try (simp -implicitDefEqProofs;try simp (disch:=omega) only [w64,wu64]))
       rw [n3]
       exact Sub1.refl _
      ·first | (simp at h;done) | (simp at h;omega)
    ·first | (simp at h;done) | (simp at h;omega)
   ·have c2':¬((4294967296*r+v1:Nat):Int)<((q*Y0:Nat):Int):=by omega
    have e4:=hend (by omega)
    clear hend hnext hstep body
    generalize q*Y0=m at *
    generalize 4294967296*r=m2 at *
    generalize m2+v1=m3 at *
    refine G1 (fs c1' (fs e1 (fs e2 (fs e3 c2')))) ?_;try with_reducible exact tt
    refine AW.cond rfl (fun h=>?_) (fun h=>?_)
    ·first | (simp at h;done) | (simp at h;omega)
    ·refine AW.exit ?_
     (try (simp -implicitDefEqProofs;try simp (disch:=omega) only [w64,wu64]))
     rw [e4]
     exact Sub1.refl _
 obtain ⟨r1,hr1⟩:∃r1,r1=u*4294967296+v1-q1*Y:=⟨_,rfl⟩
 have hd:=Nat.div_add_mod (u*4294967296+v1) Y
 have hm:=Nat.mod_lt (u*4294967296+v1) (show Y>0 by omega)
 rw [←hq1,Nat.mul_comm] at hd
 have hr1l:r1<Y:=by omega
 have hq1l:q1<4294967296:=by
  rw [hq1,Nat.div_lt_iff_lt_mul (by omega)]
  omega
 have p1:IntKind.u64.wrap ((u:Int)*4294967296)=(u*4294967296%18446744073709551616:Nat):=by rw [IntKind.wrap_u64];rfl
 have p2:IntKind.u64.wrap (((u*4294967296%18446744073709551616:Nat):Int)+v1)=((u*4294967296+v1)%18446744073709551616:Nat):=by rw [IntKind.wrap_u64];omega
 have p3:IntKind.u64.wrap ((q1:Int)*Y)=(q1*Y%18446744073709551616:Nat):=by rw [IntKind.wrap_u64,←Int.natCast_mul];rfl
 have p4:IntKind.u64.wrap (((((u*4294967296+v1)%18446744073709551616:Nat)):Int)-(q1*Y%18446744073709551616:Nat))=(r1:Int):=by
  rw [IntKind.wrap_u64]
  generalize q1*Y=m at *
  omega
 have hrq:=Nat.div_add_mod r1 Y1
 have hrle:r1/Y1≤r1:=Nat.div_le_self _ _
 have g1':IntKind.u64.wrap ((r1:Int)/Y1)=(r1/Y1:Nat):=by rw [←Int.natCast_ediv];generalize r1/Y1=q at *;exact wu64 (by omega) (by omega)
 have g2':IntKind.u64.wrap (((r1/Y1:Nat):Int)*Y1)=(r1/Y1*Y1:Nat):=by
  rw [Nat.mul_comm] at hrq
  rw [←Int.natCast_mul];generalize r1/Y1*Y1=q at *;exact wu64 (by omega) (by omega)
 have g3':IntKind.u64.wrap ((r1:Int)-(r1/Y1*Y1:Nat))=(r1%Y1:Nat):=by
  rw [Nat.mul_comm] at hrq
  generalize r1/Y1*Y1=q at *
  generalize r1%Y1=r at *
  rw [wu64 (by omega) (by omega)];omega
 have gA':IntKind.u64.wrap ((r1:Int)-IntKind.u64.wrap ((r1:Int)/Y1*Y1))=(r1:Int)%Y1:=by
  have h1:((r1:Int)/Y1*Y1)=((r1/Y1:Nat):Int)*Y1:=by rw [Int.natCast_ediv]
  rw [h1,g2',g3',Int.natCast_emod]
 have hp:=halves' (y:=Y) (a:=u*4294967296+v1) (b:=4294967296) (v0:=v0) (q1:=q1) (q0:=(r1*4294967296+v0)/Y) (by omega) hq1.symm (by rw [←hr1])
 rw [←hr1] at hp
 obtain ⟨q0,hq0⟩:∃q0,q0=(r1*4294967296+v0)/Y:=⟨_,rfl⟩
 rw [←hq0] at hp
 rw [show u*18446744073709551616+v=(u*4294967296+v1)*4294967296+v0 by omega] at hQf hRf
 rw [hp.1] at hQf
 rw [hp.2] at hRf
 have hd0:=Nat.div_add_mod (r1*4294967296+v0) Y
 have hm0:=Nat.mod_lt (r1*4294967296+v0) (show Y>0 by omega)
 rw [←hq0,Nat.mul_comm] at hd0
 obtain ⟨r0,hr0⟩:∃r0,r0=r1*4294967296+v0-q0*Y:=⟨_,rfl⟩
 rw [←hr0] at hRf
 have hq0l:q0<4294967296:=by
  rw [hq0,Nat.div_lt_iff_lt_mul (by omega)]
  omega
 have s1:IntKind.u64.wrap ((r1:Int)*4294967296)=(r1*4294967296%18446744073709551616:Nat):=by rw [IntKind.wrap_u64];rfl
 have s2:IntKind.u64.wrap (((r1*4294967296%18446744073709551616:Nat):Int)+v0)=((r1*4294967296+v0)%18446744073709551616:Nat):=by rw [IntKind.wrap_u64];omega
 have s3:IntKind.u64.wrap ((q0:Int)*Y)=(q0*Y%18446744073709551616:Nat):=by rw [IntKind.wrap_u64,←Int.natCast_mul];rfl
 have s4:IntKind.u64.wrap (((((r1*4294967296+v0)%18446744073709551616:Nat)):Int)-(q0*Y%18446744073709551616:Nat))=(r0:Int):=by
  rw [IntKind.wrap_u64]
  generalize q0*Y=m at *
  omega
 have s5:IntKind.u64.wrap ((q1:Int)*4294967296)=(q1*4294967296:Nat):=wu64 (by omega) (by omega)
 have s6:IntKind.u64.wrap (((q1*4294967296:Nat):Int)+q0)=(q1*4294967296+q0:Nat):=wu64 (by omega) (by omega)
 have s7:(r0:Int)/2^s=(r0/2^s:Nat):=by rw [Int.natCast_ediv,Int.natCast_pow];rfl
 rw [←hRf] at s7
 rw [←hQf] at s6
 clear hp hd hm hr1 hq1 hr0 hd0 hm0 hRf hQf
 obtain ⟨t3,ht3⟩:∃t,t=q1*Y%18446744073709551616:=⟨_,rfl⟩
 rw [←ht3] at p3 p4
 obtain ⟨t2,ht2⟩:∃t,t=(u*4294967296+v1)%18446744073709551616:=⟨_,rfl⟩
 rw [←ht2] at p2 p4
 obtain ⟨t1,ht1⟩:∃t,t=u*4294967296%18446744073709551616:=⟨_,rfl⟩
 rw [←ht1] at p1 p2
 clear ht1 ht2 ht3
 simp
 repeat (first | refine AW.seq ?_ | refine AW.block ?_ | (refine AW.reg mix ?_;simp -implicitDefEqProofs [p1,p2,p3,p4,hYn,hYn',g1'];try simp (disch:=omega) only [w64,wu64]) | (refine need.of (by first | omega | kernel_rfl) ?_) | (refine AW.fin ?_;try simp -implicitDefEqProofs [p1,p2,p3,p4,hYn,hYn',g1']))
 refine AW.blockCut 0 [(18,.d (.int .u64 q0))] [] (by simp) (by simp) ?_ ?_
 ·-- the other half digit
  refine AW.loopT (α:=Nat×Nat) 0 (fun a=>[(18,.d (.int .u64 (a.1:Int))),(16,.d (.int .u64 (a.2:Int)))]) (fun _=>[]) (fun a=>hInv Y1 Y0 r1 v0 a.1 a.2) (fun a=>a.1) (r1/Y1,r1%Y1) (by simp) (by simp) (o_ll (by omega) (by omega) (by omega)) (by simp [gA']) (by simp) ?_
  rintro ⟨q,r⟩ ⟨i1,i2,i3⟩
  simp only at i1 i2 i3
  have hqY:q*2147483648≤q*Y1:=Nat.mul_le_mul_left _ hY1
  have hend:q*Y0≤r*4294967296+v0→q0=q:=fun h=>by rw [hq0,hYY];exact o_kt i1 h i2
  have hnext:(4294967296≤q∨r*4294967296+v0<q*Y0)→0<q∧(q-1)*Y1+(r+Y1)=r1∧r1*4294967296+v0<(q-1+1)*(Y1*4294967296+Y0):=fun h=>o_ku i1 (by omega) (by omega) h
  have hstep:∀(T:List V) ,(4294967296≤q∨r*4294967296+v0<q*Y0)→0<q∧hInv Y1 Y0 r1 v0 (q-1) (r+Y1)∨(0<q∧4294967296≤r+Y1∧q0=q-1):=fun _ h=>by
   obtain ⟨n1,n2,n3⟩:=hnext h
   rcases Nat.lt_or_ge (r+Y1) 4294967296 with h1 | h1
   ·exact .inl ⟨n1,n2,n3,h1⟩
   ·refine .inr ⟨n1,h1,?_⟩
    rw [hq0,hYY]
    exact o_kt n2 (o_kv n2 (by omega) hY0 h1 _) n3
  have b1:IntKind.u64.wrap ((r:Int)+Y1)=((r+Y1:Nat):Int):=wu64 (by omega) (by omega)
  have body:(4294967296≤q∨r*4294967296+v0<q*Y0)→IntKind.u64.wrap ((q:Int)-1)=((q-1:Nat):Int):=fun h=>by
   have:=(hnext h).1
   rw [wu64 (by omega) (by omega)];omega
  by_cases c1:4294967296≤q
  ·have c1':(4294967296:Int)≤q:=by omega
   refine G1 c1' ?_;try with_reducible exact tt
   refine AW.cond rfl (fun h=>?_) (fun h=>?_)
   ·have e1:=body (.inl c1)
    rcases hstep [] (.inl c1) with ⟨n1,n2⟩ | ⟨n1,n2,n3⟩
    ·have n4:¬(4294967296:Int)≤((r+Y1:Nat):Int):=by have:=n2.2.2;omega
     generalize hr':r+Y1=r' at *
     generalize hq':q-1=q' at *
     refine G1 (fs e1 (fs b1 n4)) ?_;try with_reducible exact tt
     refine AW.cond rfl (fun h=>?_) (fun h=>?_)
     ·first | (simp [n4] at h;done) | (simp [n4] at h;omega)
     refine G0 ?_;try with_reducible exact tt
     exact ⟨q',r',n2,by omega,by simp,by simp⟩
    ·have n4:(4294967296:Int)≤((r+Y1:Nat):Int):=by omega
     generalize hr':r+Y1=r' at *
     generalize hq':q-1=q' at *
     refine G1 (fs e1 (fs b1 n4)) ?_;try with_reducible exact tt
     refine AW.cond rfl (fun h=>?_) (fun h=>?_)
     ·refine AW.exit ?_
      (try (simp -implicitDefEqProofs;try simp (disch:=omega) only [w64,wu64]))
      rw [n3]
      exact Sub1.refl _
     ·first | (simp at h;done) | (simp at h;omega)
   ·simp [c1'] at h
  ·have c1':¬(4294967296:Int)≤q:=by omega
   have hqy:q*Y0≤4294967295*4294967295:=Nat.mul_le_mul (by omega) (by omega)
   have e1:IntKind.u64.wrap ((q:Int)*Y0)=((q*Y0:Nat):Int):=by rw [←Int.natCast_mul];exact wu64 (by omega) (by omega)
   have e2:IntKind.u64.wrap (4294967296*(r:Int))=((4294967296*r:Nat):Int):=wu64 (by omega) (by omega)
   have e3:IntKind.u64.wrap (((4294967296*r:Nat):Int)+v0)=((4294967296*r+v0:Nat):Int):=wu64 (by omega) (by omega)
   by_cases c2:r*4294967296+v0<q*Y0
   ·have c2':((4294967296*r+v0:Nat):Int)<((q*Y0:Nat):Int):=by omega
    have e4:=body (.inr c2)
    have hs:=hstep [] (.inr c2)
    clear hend hnext hstep body
    generalize q*Y0=m at *
    generalize 4294967296*r=m2 at *
    generalize m2+v0=m3 at *
    refine G1 (fs c1' (fs e1 (fs e2 (fs e3 c2')))) ?_;try with_reducible exact tt
    refine AW.cond rfl (fun h=>?_) (fun h=>?_)
    ·rcases hs with ⟨n1,n2⟩ | ⟨n1,n2,n3⟩
     ·have n4:¬(4294967296:Int)≤((r+Y1:Nat):Int):=by have:=n2.2.2;omega
      generalize hr':r+Y1=r' at *
      generalize hq':q-1=q' at *
      refine G1 (fs e4 (fs b1 n4)) ?_;try with_reducible exact tt
      refine AW.cond rfl (fun h=>?_) (fun h=>?_)
      ·first | (simp at h;done) | (simp at h;omega)
      refine G0 ?_;try with_reducible exact tt
      exact ⟨q',r',n2,by omega,by simp,by simp⟩
     ·have n4:(4294967296:Int)≤((r+Y1:Nat):Int):=by omega
      generalize hr':r+Y1=r' at *
      generalize hq':q-1=q' at *
      refine G1 (fs e4 (fs b1 n4)) ?_;try with_reducible exact tt
      refine AW.cond rfl (fun h=>?_) (fun h=>?_)
      ·refine AW.exit ?_
       (try (simp -implicitDefEqProofs;try simp (disch:=omega) only [w64,wu64]))
       rw [n3]
       exact Sub1.refl _
      ·first | (simp at h;done) | (simp at h;omega)
    ·first | (simp at h;done) | (simp at h;omega)
   ·have c2':¬((4294967296*r+v0:Nat):Int)<((q*Y0:Nat):Int):=by omega
    have e4:=hend (by omega)
    clear hend hnext hstep body
    generalize q*Y0=m at *
    generalize 4294967296*r=m2 at *
    generalize m2+v0=m3 at *
    refine G1 (fs c1' (fs e1 (fs e2 (fs e3 c2')))) ?_;try with_reducible exact tt
    refine AW.cond rfl (fun h=>?_) (fun h=>?_)
    ·first | (simp at h;done) | (simp at h;omega)
    ·refine AW.exit ?_
     (try (simp -implicitDefEqProofs;try simp (disch:=omega) only [w64,wu64]))
     rw [e4]
     exact Sub1.refl _
 clear hq0
 obtain ⟨t6,ht6⟩:∃t,t=q0*Y%18446744073709551616:=⟨_,rfl⟩
 rw [←ht6] at s3 s4
 obtain ⟨t5,ht5⟩:∃t,t=(r1*4294967296+v0)%18446744073709551616:=⟨_,rfl⟩
 rw [←ht5] at s2 s4
 obtain ⟨t4,ht4⟩:∃t,t=r1*4294967296%18446744073709551616:=⟨_,rfl⟩
 rw [←ht4] at s1 s2
 obtain ⟨t7,ht7⟩:∃t,t=q1*4294967296:=⟨_,rfl⟩
 rw [←ht7] at s5 s6
 clear ht4 ht5 ht6 ht7
 simp
 refine G1 (fs s1 (fs s2 (fs s3 (fs s4 (fs s5 (fs s6 (fs s7 f13))))))) ?_;try with_reducible exact tt
end
section
open Go.RowKit
theorem o_ln:∀(ws:List Nat) (j v:Nat),j<ws.length→wval (ws.set j v)+18446744073709551616^j*ws.getD j 0=wval ws+18446744073709551616^j*v
 | [],j,v,h=>by simp at h
 | x::l,0,v,h=>by simp [wval];omega
 | x::l,j+1,v,h=>by
  have ih:=o_ln l j v (by simpa using h)
  simp only [List.set_cons_succ,wval,Nat.pow_succ,List.getD_cons_succ]
  have e:∀z,18446744073709551616^j*18446744073709551616*z=18446744073709551616*(18446744073709551616^j*z):=fun z=>by
   rw [Nat.mul_right_comm,Nat.mul_comm]
  rw [e,e]
  omega
theorem o_lo {ws:List Nat} (h:small ws) (j v:Nat) (hv:v<18446744073709551616):small (ws.set j v):=by
 intro x hx
 rcases List.mem_or_eq_of_mem_set hx with hx | rfl
 ·exact h x hx
 ·exact hv
def uW (ws:List Nat):List V:=U ws
theorem o_lp (ws:List Nat):(uW ws).length=ws.length:=by simp [uW,U]
theorem o_lq {ws:List Nat} {j:Nat} (h:j<ws.length):(uW ws)[j]?=some (.d (.int .u64 (ws.getD j 0:Nat))):=by
 simp [uW,U,List.getD,h]
theorem o_lr (ws:List Nat) (j v:Nat):(uW ws).set j (.d (.int .u64 v))=uW (ws.set j v):=by simp [uW,U,List.map_set]
theorem o_ls (n:Nat) (ws:List Nat):V.lowl n (uW ws)=true:=o_kc n ws

theorem o_lt {vn v z1 z2 p b xy o c l2 h2:Nat} (hs2:vn+p*o=v+p*l2) (hv:v+p*c=z2+z1) (htot:xy+o+c=l2+b*h2):vn+p*b*h2=z2+(z1+p*xy):=by
 have e2:=congrArg (p * ·) htot
 simp only [Nat.mul_add] at e2
 rw [←Nat.mul_assoc] at e2
 omega
set_option maxHeartbeats 4000000 in
theorem o_lu (m n:Nat) (hm:size m≤1000000) (hn:size n≤1000000):Eqn Tryz.prog o_bq [.d (.agg [natW m]),.d (.agg [natW n])] [] (.d (.agg [natW (m*n)])) []:=by
 refine Eqn.pure o_bs (o_5e _) ?_
 unfold size at hm hn
 rw [←o_jb m,←o_jb n]
 have hsA:=o_jc m
 have hsB:=o_jc n
 rw [show natW (wval (words m))=W (words m) by rw [o_jb];rfl,show natW (wval (words n))=W (words n) by rw [o_jb];rfl]
 generalize words m=A at *
 generalize words n=B at *
 refine cc (c':=?z20) ?_ ?_
 case refine_1=>cbv<;>exact rfl
 try simp only [W]
 have hlen:((A.length:Int)+B.length).toNat=A.length+B.length:=by omega
 refine G1 hlen ?_;try with_reducible exact tt
 rw [show List.replicate (A.length+B.length) (V.d (.int .u64 0))=uW (List.replicate (A.length+B.length) 0) by simp [uW,U]]
 refine AW.loopT (α:=Nat×List Nat) 4 (fun s=>[(25,.d (.int .i64 (s.1:Int)))]) (fun s=>[(3,⟨105,uW s.2⟩)]) (fun s=>s.1≤A.length∧s.2.length=A.length+B.length∧small s.2∧wval s.2=wval (A.take s.1)*wval B∧∀j,s.1+B.length≤j→s.2.getD j 0=0) (fun s=>A.length-s.1) (0,List.replicate (A.length+B.length) 0) ?_ ?_ ?_ ?_ ?_ ?_
 ·simp
 ·simp
 ·refine ⟨Nat.zero_le _,by simp,fun x hx=>by rw [List.eq_of_mem_replicate hx];omega,by simp [o_if,wval],fun j _=>?_⟩
  simp [List.getD,List.getElem?_replicate]
  split<;>rfl
 ·simp
 ·simp [o_ls]
 rintro ⟨i,ws⟩ ⟨hi,hl,hs,hv,hz⟩
 simp only at hi hl hs hv hz
 simp
 by_cases h:i=A.length
 ·subst h
  rw [List.take_length] at hv
  refine G0 ?_;try with_reducible exact tt
  refine AW.cond rfl (fun h=>?_) (fun h=>?_)
  ·simp at h
  refine AW.exit ?_
  (try (simp -implicitDefEqProofs;try simp (disch:=omega) only [w64,wu64]))
  have hcell:uW ws=(ws.map fun x:Nat=>D.int .u64 x).map V.d:=by simp [uW,U]
  rw [hcell]
  refine AW.freeze 3 1 ⟨105,_⟩ (ws.map fun x:Nat=>.int .u64 x) (by rfl) (by rfl) ?_
  simp [←hl,List.take_of_length_le]
  refine G0 ?_;try with_reducible exact tt
  refine CallS.pu (o_jk ws hs (by omega)) (R0 ?_);try with_reducible exact tt
  refine Sub1.of ?_
  rw [hv]
 ·have hi':i<A.length:=by omega
  have hp:(i:Int)<A.length:=by omega
  refine G1 (fs hi' hp) ?_;try with_reducible exact tt
  refine AW.cond rfl (fun h=>?_) (fun h=>?_)
  ·refine G1 (fs hi' hp) ?_;try with_reducible exact tt
   have hwA:A[i]=A.getD i 0:=o_jj hi'
   have hx:A[i]<18446744073709551616:=hsA _ (List.getElem_mem _)
   generalize A[i]=x at hwA hx ⊢
   refine AW.loopT (α:=Nat×Nat×List Nat) 4 (fun s=>[(33,.d (.int .i64 (s.1:Int))),(8,.d (.int .u64 (s.2.1:Int)))]) (fun s=>[(3,⟨105,uW s.2.2⟩)]) (fun s=>s.1≤B.length∧s.2.1<18446744073709551616∧s.2.2.length=A.length+B.length∧small s.2.2∧wval s.2.2+18446744073709551616^(i+s.1)*s.2.1=wval (A.take i)*wval B+18446744073709551616^i*(x*wval (B.take s.1))∧∀j,i+B.length≤j→s.2.2.getD j 0=0) (fun s=>B.length-s.1) (0,0,ws) ?_ ?_ ⟨Nat.zero_le _,by simp,hl,hs,by simp [hv,wval],hz⟩ ?_ ?_ ?_
   ·simp
   ·simp
   ·simp
   ·simp [o_ls]
   clear hl hs hv hz
   rintro ⟨k,c,ws'⟩ ⟨hk,hc,hl,hs,hv,hz⟩
   simp only at hk hc hl hs hv hz
   simp
   have hlen':((i:Int)+B.length).toNat=i+B.length:=by omega
   have ew:IntKind.i64.wrap ((i:Int)+B.length)=((i+B.length:Nat):Int):=w64 (by omega) (by omega)
   have eu:=o_lp ws'
   have eset:=fun j v=>o_lr ws' j v
   by_cases hkl:k=B.length
   ·subst hkl
    rw [List.take_length] at hv
    refine G0 ?_;try with_reducible exact tt
    refine AW.cond rfl (fun h=>?_) (fun h=>?_)
    ·simp at h
    have hg:(uW ws').length=A.length+B.length:=by rw [eu];exact hl
    have e2:IntKind.i64.wrap ((i:Int)+1)=(i:Int)+1:=w64 (by omega) (by omega)
    refine G1 (fs hg (fs eset e2)) ?_;try with_reducible exact tt
    refine ⟨i+1,ws'.set (i+B.length) c,⟨hi',by simp [hl],o_lo hs _ _ hc,?_,fun j hj=>?_⟩,by omega,by simp,by rw [hlen'];simp,o_ls _ _⟩
    ·have h1:=o_ln ws' (i+B.length) c (by omega)
     rw [hz _ (Nat.le_refl _),Nat.mul_zero,Nat.add_zero] at h1
     rw [h1,hv,o_iz,Nat.add_mul,hwA,Nat.mul_assoc]
    ·have h1:=hz j (by omega)
     rw [List.getD] at h1
     rw [List.getElem?_set_ne (by omega)]
     exact h1
   ·have hk':k<B.length:=by omega
    have hkp:(k:Int)<B.length:=by omega
    refine G1 (fs hk' hkp) ?_;try with_reducible exact tt
    refine AW.cond rfl (fun h=>?_) (fun h=>?_)
    ·have hy:B[k]<18446744073709551616:=hsB _ (List.getElem_mem _)
     have hwB:B[k]=B.getD k 0:=o_jj hk'
     have hg:(uW ws').length=A.length+B.length:=by rw [eu];exact hl
     have hik:i+k<ws'.length:=by omega
     have hik2:((i:Int)+k).toNat=i+k:=by omega
     have ewk:IntKind.i64.wrap ((i:Int)+k)=(i:Int)+k:=w64 (by omega) (by omega)
     have hgo:=o_lq hik
     have ho:=hs.getD (i+k)
     have hset:=fun v=>o_ln ws' (i+k) v hik
     generalize hO:ws'.getD (i+k) 0=o at hgo ho hset
     have e2:IntKind.i64.wrap ((k:Int)+1)=(k:Int)+1:=w64 (by omega) (by omega)
     refine G1 (fs hk' hkp) ?_;try with_reducible exact tt
     generalize B[k]=y at hy hwB ⊢
     have hmul:=o_lj x y hx hy
     have l0:x*y%18446744073709551616<18446744073709551616:=Nat.mod_lt _ (by decide)
     have hxy:x*y≤18446744073709551615*18446744073709551615:=Nat.mul_le_mul (by omega) (by omega)
     have hdm:=Nat.div_add_mod (x*y) 18446744073709551616
     obtain ⟨hi',hhi⟩:∃q,q=x*y/18446744073709551616:=⟨_,rfl⟩
     obtain ⟨lo,hlo⟩:∃q,q=x*y%18446744073709551616:=⟨_,rfl⟩
     obtain ⟨xy,hxyd⟩:∃q,q=x*y:=⟨_,rfl⟩
     rw [←hhi,←hlo] at hmul
     rw [←hlo] at l0
     rw [←hhi,←hlo,←hxyd] at hdm
     rw [←hxyd] at hxy
     obtain ⟨l1,k1,hl1,hll1,hk1⟩:∃l1 k1:Nat,lo+o+0=l1+18446744073709551616*k1∧l1<18446744073709551616∧k1≤1:=⟨(lo+o)%18446744073709551616,(lo+o)/18446744073709551616,by omega,by omega,by omega⟩
     obtain ⟨l2,k2,hl2,hll2,hk2⟩:∃l2 k2:Nat,l1+c+0=l2+18446744073709551616*k2∧l2<18446744073709551616∧k2≤1:=⟨(l1+c)%18446744073709551616,(l1+c)/18446744073709551616,by omega,by omega,by omega⟩
     have htot:xy+o+c=l2+18446744073709551616*(hi'+k1+k2):=by omega
     have hhl:hi'+k1+k2<18446744073709551616:=by omega
     have w1:IntKind.u64.wrap ((hi':Int)+k1)=((hi'+k1:Nat):Int):=wu64 (by omega) (by omega)
     have w2:IntKind.u64.wrap (((hi'+k1:Nat):Int)+k2)=((hi'+k1+k2:Nat):Int):=wu64 (by omega) (by omega)
     clear hhi hlo
     refine CallS.pu (hmul) (R1 (fs hg (fs hgo (fs hik2 ewk))) ?_);try with_reducible exact tt
     generalize hi'+k1=h1 at *
     generalize h1+k2=h2 at *
     refine CallS.pu (o_jp lo o 0 l1 k1 l0 ho (by omega) hll1 hl1) (R1 w1 ?_);try with_reducible exact tt
     refine CallS.pu (o_jp l1 c 0 l2 k2 hll1 hc (by omega) hll2 hl2) (R1 (fs w2 (fs hg (fs hik2 (fs ewk (fs eset e2))))) ?_);try with_reducible exact tt
     refine ⟨k+1,h2,ws'.set (i+k) l2,⟨hk',hhl,by simpa using hl,o_lo hs _ _ hll2,?_,fun j hj=>?_⟩,by omega,by simp,Subs.refl _,o_ls _ _⟩
     ·have hs2:=hset l2
      have e1:x*wval (B.take (k+1))=x*wval (B.take k)+18446744073709551616^k*xy:=by
       rw [o_iz,←hwB,Nat.mul_add,hxyd]
       congr 1
       rw [←Nat.mul_assoc,Nat.mul_comm x,Nat.mul_assoc]
      rw [e1,Nat.mul_add,←Nat.mul_assoc (18446744073709551616^i) (18446744073709551616^k) xy,←Nat.pow_add,←Nat.add_assoc i k 1,Nat.pow_succ]
      exact o_lt hs2 hv htot
     ·have h1:=hz j hj
      rw [←List.getD_eq_getElem?_getD]
      rw [List.getD] at h1 ⊢
      rw [List.getElem?_set_ne (by omega)]
      exact h1
    ·simp [hk'] at h
  ·simp [hi'] at h
end
section
open Go.RowKit
theorem o_lv {x:Nat} (h:x<18446744073709551616):size x≤1:=by
 rw [size]
 rcases Nat.eq_zero_or_pos x with rfl | h0
 ·simp [words,wordsF]
 ·rw [o_kg h0 h];simp

theorem o_lw (a:Nat):Eqn Tryz.prog o_bw [.d (.bool false),.d (.agg [natW a])] [] (.d (.agg [natW a,.bool false])) []:=by
 refine Eqn.pure o_by (o_5e _) ?_
 refine cc (c':=?z21) ?_ ?_
 case refine_1=>cbv<;>exact rfl
 refine G0 ?_;try with_reducible exact tt

theorem o_lx (a:Nat) (s:Bool):Eqn Tryz.prog o_dz [.d (.agg [natW a,.bool s])] [] (.d (.agg [natW a])) []:=by
 refine Eqn.pure o_e1 (o_5e _) ?_
 refine cc (c':=?z22) ?_ ?_
 case refine_1=>cbv<;>exact rfl
 refine G0 ?_;try with_reducible exact tt

theorem o_ly (a:Nat) (s:Bool):Eqn Tryz.prog o_e8 [.d (.agg [natW a,.bool s])] [] (.d (.bool s)) []:=by
 refine Eqn.pure o_ea (o_5e _) ?_
 refine cc (c':=?z23) ?_ ?_
 case refine_1=>cbv<;>exact rfl
 refine G0 ?_;try with_reducible exact tt

theorem o_lz (n:Nat) (h:n<9223372036854775808):Eqn Tryz.prog o_b2 [.d (.int .i64 n)] [] (.d (.agg [natW n,.bool false])) []:=by
 refine Eqn.pure o_b4 (o_5e _) ?_
 refine cc (c':=?z24) ?_ ?_
 case refine_1=>cbv<;>exact rfl
 have h0:¬(n:Int)<0:=by omega
 refine G0 ?_;try with_reducible exact tt
 refine AW.cond rfl (fun h=>?_) (fun h=>?_)
 ·simp [h0] at h
 have e:IntKind.u64.wrap (n:Int)=n:=wu64 (by omega) (by omega)
 refine G1 e ?_;try with_reducible exact tt
 refine CallS.pf 1 1 ⟨105,_⟩ [.int .u64 n] (o_jl [n] (o_kh (by omega)) (by simp)) (by first | rfl | (simp;done)) (R0 ?_);try with_reducible exact tt
 refine CallS.pu (o_lw n) (R0 ?_);try with_reducible exact tt

theorem o_m0 (a d:Nat) (s:Bool) (h:size d≤1000000):Eqn Tryz.prog o_9g [.d (.agg [natW a,.bool s,natW d])] [] (.d (.agg [natW (d+1)])) []:=by
 refine Eqn.pure o_9i (o_5e _) ?_
 refine cc (c':=?z25) ?_ ?_
 case refine_1=>cbv<;>exact rfl
 refine G0 ?_;try with_reducible exact tt
 refine CallS.pf 2 1 ⟨105,_⟩ [.int .u64 (1:Nat)] (o_jl [1] (o_kh (by omega)) (by simp)) (by first | rfl | (simp;done)) (R0 ?_);try with_reducible exact tt
 refine CallS.pu (o_k2 d 1 h (by have:=o_lv (x:=1) (by omega);omega)) (R0 ?_);try with_reducible exact tt
theorem o_m1 (a b:Nat) (ha:a<18446744073709551616) (h0:0<b) (hb:b<18446744073709551616):Eqn Tryz.prog o_bk [.d (.agg [natW a,.bool false]),.d (.agg [natW b])] [] (.d (.agg [natW (a/Nat.gcd a b),.bool false,natW (b/Nat.gcd a b-1)])) []:=by
 refine Eqn.pure o_bm (o_5e _) ?_
 refine cc (c':=?z27) ?_ ?_
 case refine_1=>cbv<;>exact rfl
 have hg:0<Nat.gcd a b:=Nat.gcd_pos_of_pos_right _ h0
 have hg2:Nat.gcd a b≤b:=Nat.gcd_le_right _ h0
 have hq:0<b/Nat.gcd a b:=Nat.div_pos hg2 hg
 have hq2:b/Nat.gcd a b≤b:=Nat.div_le_self _ _
 refine G0 ?_;try with_reducible exact tt
 refine CallS.pu (o_lx a false) (R0 ?_);try with_reducible exact tt
 refine CallS.pu (o_km a b ha hb) (R0 ?_);try with_reducible exact tt
 generalize Nat.gcd a b=g at *
 refine CallS.pu (o_lx a false) (R0 ?_);try with_reducible exact tt
 refine CallS.pu (o_kl a g ha hg (by omega)) (R0 ?_);try with_reducible exact tt
 refine CallS.pu (o_kl b g hb hg (by omega)) (R0 ?_);try with_reducible exact tt
 refine CallS.pf 8 1 ⟨105,_⟩ [.int .u64 (1:Nat)] (o_jl [1] (o_kh (by omega)) (by simp)) (by first | rfl | (simp;done)) (R0 ?_);try with_reducible exact tt
 refine CallS.pu (o_k6 (b/g) 1 (by have:=o_lv (x:=b/g) (by omega);omega) (by omega)) (R0 ?_);try with_reducible exact tt
 refine CallS.pu (o_ly a false) (R0 ?_);try with_reducible exact tt
 refine CallS.pu (o_lw (a/g)) (R0 ?_);try with_reducible exact tt

theorem o_m2 (k:Nat) (hk:k<64):Eqn Tryz.prog o_cn [.d (.int .i64 k)] [] (.tup [.d (.agg [natW 1,.bool false,natW (2^k-1)]),.d (.int .i64 0)]) []:=by
 refine Eqn.pure o_cp (o_k0 _ _) ?_
 refine cc (c':=?z28) ?_ ?_
 case refine_1=>cbv<;>exact rfl
 refine G0 ?_;try with_reducible exact tt
 refine CallS.pf 1 1 ⟨105,_⟩ [.int .u64 (1:Nat)] (o_jl [1] (o_kh (by omega)) (by simp)) (by first | rfl | (simp;done)) (R0 ?_);try with_reducible exact tt
 refine CallS.pu (o_kf 1 k (by have:=o_lv (x:=1) (by omega);omega) (by omega)) (R0 ?_);try with_reducible exact tt
 refine AW.cond rfl (fun h=>?_) (fun h=>?_)
 ·simp at h
 refine G0 ?_;try with_reducible exact tt
 refine CallS.pu (o_lz 1 (by omega)) (R0 ?_);try with_reducible exact tt
 refine CallS.pu (o_m1 1 (2^k) (by omega) (Nat.two_pow_pos k) (Nat.pow_lt_pow_right (by omega) hk)) (R0 ?_);try with_reducible exact tt
end
section
open Go.RowKit
theorem o_m3 {x n m:Nat} (h:x<2^n) (hm:n≤64*m):size x≤m:=by
 apply o_ix (o_jd x)
 rw [o_jb,show (18446744073709551616:Nat)=2^64 by rfl,←Nat.pow_mul]
 exact Nat.lt_of_lt_of_le h (Nat.pow_le_pow_right (by omega) hm)
def splitW (y:Nat):List Nat→List Nat×Nat
 | []=>([],0)
 | x::l=>(((splitW y l).2*18446744073709551616+x)/y::(splitW y l).1,((splitW y l).2*18446744073709551616+x)%y)
theorem o_m4 {y:Nat} (h0:0<y):∀{l:List Nat},small l→wval l=wval (splitW y l).1*y+(splitW y l).2∧(splitW y l).2<y∧small (splitW y l).1∧(splitW y l).1.length=l.length
 | [],_=>⟨by simp [splitW,wval],h0,by simp [small,splitW],rfl⟩
 | x::l,h=>by
  have hx:=h x (by simp)
  obtain ⟨h1,h2,h3,h4⟩:=o_m4 h0 (l:=l) (fun z hz=>h z (by simp [hz]))
  simp only [splitW,wval,List.length_cons,h4]
  generalize splitW y l=s at *
  obtain ⟨Q,r⟩:=s
  simp only at *
  have hd:=Nat.div_add_mod (r*18446744073709551616+x) y
  have hm:=Nat.mod_lt (r*18446744073709551616+x) h0
  have hq:(r*18446744073709551616+x)/y<18446744073709551616:=by
   rw [Nat.div_lt_iff_lt_mul h0]
   have:(r+1)*18446744073709551616≤y*18446744073709551616:=Nat.mul_le_mul_right _ h2
   omega
  refine ⟨?_,hm,?_,trivial⟩
  ·rw [Nat.mul_comm y] at hd
   have e:18446744073709551616*(wval Q*y+r)=18446744073709551616*wval Q*y+r*18446744073709551616:=by rw [Nat.mul_add,Nat.mul_assoc,Nat.mul_comm r]
   rw [h1,e,Nat.add_mul]
   obtain ⟨z,hz⟩:∃z,z=(r*18446744073709551616+x)%y:=⟨_,rfl⟩
   obtain ⟨z2,hz2⟩:∃z,z=(r*18446744073709551616+x)/y*y:=⟨_,rfl⟩
   obtain ⟨z3,hz3⟩:∃z,z=18446744073709551616*wval Q*y:=⟨_,rfl⟩
   rw [←hz,←hz2] at hd
   rw [←hz,←hz2,←hz3]
   omega
  ·intro z hz
   rcases List.mem_cons.1 hz with rfl | hz
   ·exact hq
   ·exact h3 z hz

theorem o_m5 {y:Nat} (h0:0<y) {l:List Nat} (h:small l):wval (splitW y l).1=wval l/y∧(splitW y l).2=wval l%y:=by
 obtain ⟨h1,h2,_,_⟩:=o_m4 h0 h
 rw [h1]
 constructor
 ·rw [Nat.mul_comm,Nat.mul_add_div h0,Nat.div_eq_of_lt h2,Nat.add_zero]
 ·rw [Nat.mul_comm,Nat.mul_add_mod];exact (Nat.mod_eq_of_lt h2).symm

def splitC (y:Nat) (ws:List Nat) (k:Nat):List V:=U (List.replicate k 0++(splitW y (ws.drop k)).1)
theorem o_m6 {y:Nat} (h0:0<y) {ws:List Nat} (hs:small ws) {k:Nat} (hk:k≤ws.length):(splitC y ws k).length=ws.length:=by
 have:=(o_m4 h0 (l:=ws.drop k) (fun x hx=>hs x (List.mem_of_mem_drop hx))).2.2.2
 simp [splitC,U,this];omega

set_option maxHeartbeats 2000000 in
theorem o_m7 (ws:List Nat) (y:Nat) (hs:small ws) (hn:ws.length≤1000000) (h0:0<y) (hy:y<18446744073709551616):Eqn Tryz.prog o_c8 [.d (W ws),.d (.int .u64 y)] [] (.tup [.d (W (splitW y ws).1),.d (.int .u64 (splitW y ws).2)]) []:=by
 refine Eqn.pure o_ca (o_k0 _ _) ?_
 refine cc (c':=?z29) ?_ ?_
 case refine_1=>cbv<;>exact rfl
 try simp only [W]
 have hlen:=(o_m4 h0 hs).2.2.2
 rw [hlen]
 have hlowC:∀k,V.lowl 1 (splitC y ws k)=true:=fun k=>o_kc 1 _
 refine G0 ?_;try with_reducible exact tt
 rw [show List.replicate ws.length (V.d (.int .u64 0))=splitC y ws ws.length by simp [splitC,U,splitW]]
 refine AW.loopT (α:=Nat) 1 (fun k=>[(8,.d (.int .i64 ((k:Int)-1))),(7,.d (.int .u64 ((splitW y (ws.drop k)).2:Nat)))]) (fun k=>[(0,⟨105,splitC y ws k⟩)]) (fun k=>k≤ws.length) (fun k=>k) ws.length ?_ ?_ (Nat.le_refl _) ?_ ?_ ?_
 ·simp
 ·simp
 ·simp [splitW]
 ·simp [hlowC]
 rintro k hk
 simp
 cases k with
 | zero =>
  refine G0 ?_;try with_reducible exact tt
  refine AW.cond rfl (fun h=>?_) (fun h=>?_)
  ·simp at h
  refine AW.exit ?_
  (try (simp -implicitDefEqProofs;try simp (disch:=omega) only [w64,wu64]))
  rw [show splitC y ws 0=((splitW y ws).1.map fun x:Nat=>D.int .u64 x).map V.d by simp [splitC,U]]
  refine AW.freeze 0 1 ⟨105,_⟩ ((splitW y ws).1.map fun x:Nat=>.int .u64 x) (by rfl) (by rfl) ?_
  simp [←hlen,List.take_of_length_le]
  refine G0 ?_;try with_reducible exact tt
 | succ k =>
  have hk':k<ws.length:=hk
  have hdrop:ws.drop k=ws[k]::ws.drop (k+1):=List.drop_eq_getElem_cons hk'
  obtain ⟨i1,i2,i3,i4⟩:=o_m4 h0 (l:=ws.drop (k+1)) (fun x hx=>hs x (List.mem_of_mem_drop hx))
  have hl:=o_m6 h0 hs hk
  have hset:(splitC y ws (k+1)).set k (.d (.int .u64 (((splitW y (ws.drop (k+1))).2*18446744073709551616+ws[k])/y:Nat)))=splitC y ws k:=by
   rw [splitC,splitC,hdrop,splitW,U,U,List.replicate_succ',List.append_assoc,List.map_append,List.map_append,List.set_append_right _ _ (by simp)]
   simp
  have hrest:(splitW y (ws.drop k)).2=((splitW y (ws.drop (k+1))).2*18446744073709551616+ws[k])%y:=by rw [hdrop,splitW]
  have hx:ws[k]<18446744073709551616:=hs _ (List.getElem_mem _)
  have hdv:=o_lm (splitW y (ws.drop (k+1))).2 ws[k] y i2 hx hy
  rw [←hrest] at hdv
  generalize (splitW y (ws.drop (k+1))).2=r at *
  have e0:(0:Int)≤(k:Int)+1-1:=by omega
  have e1:(k:Int)+1-1=k:=by omega
  have e2:(((k:Int)+1-1)).toNat=k:=by omega
  have e3:IntKind.i64.wrap ((k:Int)-1)=(k:Int)-1:=w64 (by omega) (by omega)
  generalize hxk:ws[k]=x at *
  generalize hqd:(r*18446744073709551616+x)/y=q at *
  generalize hr'':(splitW y (ws.drop k)).2=r' at *
  refine G1 (fs e0 (fs e1 (fs e2 hk'))) ?_;try with_reducible exact tt
  refine AW.cond rfl (fun h=>?_) (fun h=>?_)
  ·refine G1 (fs e0 (fs e1 (fs e2 (fs hk' hxk)))) ?_;try with_reducible exact tt
   refine CallS.pu (hdv) (R1 (fs e1 (fs hl (fs hk' (fs hset e3)))) ?_);try with_reducible exact tt
   refine ⟨k,by omega,by omega,?_⟩
   rw [hr'']
   simp [hlowC]
  ·simp at h

theorem o_m8 (a b:Nat) (ha:size a≤1000000) (h0:0<b) (hb:b<18446744073709551616∨a<b) (hbs:size b≤1000000):Eqn Tryz.prog o_e2 [.d (.agg [natW a]),.d (.agg [natW b])] [] (.tup [.d (.agg [natW (a/b)]),.d (.agg [natW (a%b)]),.d (.int .i64 0)]) []:=by
 refine Eqn.pure o_e4 (o_k1 _ _ _) ?_
 refine cc (c':=?z30) ?_ ?_
 case refine_1=>cbv<;>exact rfl
 refine G0 ?_;try with_reducible exact tt
 refine CallS.pu (o_jm b) (R0 ?_);try with_reducible exact tt
 have hz:(b==0)=false:=by simp;omega
 refine AW.cond rfl (fun h=>?_) (fun h=>?_)
 ·simp [hz] at h
 refine G0 ?_;try with_reducible exact tt
 refine CallS.pu (o_jo a b ha hbs) (R0 ?_);try with_reducible exact tt
 refine AW.cond rfl (fun h=>?_) (fun h=>?_)
 ·have hlt:a<b:=by simpa [o_ki] using h
  rw [Nat.div_eq_of_lt hlt,Nat.mod_eq_of_lt hlt]
  refine G0 ?_;try with_reducible exact tt
  refine CallS.pu (o_jl (words a) (o_jc a) (by unfold size at ha;omega)) (R0 ?_);try with_reducible exact tt
  rw [o_jb]
  exact Sub1.tup (Subs.cons (Sub1.nat0) (Subs.refl _))
 ·have hge:¬a<b:=fun hlt=>by simp [o_ki,hlt] at h
  have hb1:b<18446744073709551616:=by omega
  have e':natW b = .sl 1 [.int .u64 b]:=by rw [natW,o_kg (by omega) hb1];rfl
  have hsp:=o_m7 (words a) b (o_jc a) (by unfold size at ha;omega) h0 hb1
  obtain ⟨q1,q2,q3,q4⟩:=o_m4 h0 (o_jc a)
  have hd:=o_m5 h0 (o_jc a)
  rw [o_jb] at hd
  have htr:=o_jk (splitW b (words a)).1 q3 (by unfold size at ha;omega)
  rw [hd.1] at htr
  rw [hd.2] at hsp q2
  rw [show W (words a)=natW a from rfl] at hsp
  generalize (splitW b (words a)).1=qs at *
  refine G1 e' ?_;try with_reducible exact tt
  refine AW.cond rfl (fun h=>?_) (fun h=>?_)
  ·refine G1 e' ?_;try with_reducible exact tt
   refine CallS.pu (hsp) (R0 ?_);try with_reducible exact tt
   refine CallS.pu (htr) (R0 ?_);try with_reducible exact tt
   refine CallS.pf 4 1 ⟨105,_⟩ [.int .u64 (a%b:Nat)] (o_jl [a%b] (o_kh (by omega)) (by simp)) (by first | rfl | (simp;done)) (R0 ?_);try with_reducible exact tt
   simp [wval]
  ·simp [e'] at h

theorem o_m9 (b:Nat) (hb:0<b) (hbs:size b≤1000000):Eqn Tryz.prog o_dw [.d (.agg [natW 1]),.d (.agg [natW b])] [] (.d (.agg [natW 1])) []:=by
 refine Eqn.pure o_dy (o_5e _) ?_
 refine cc (c':=?z31) ?_ ?_
 case refine_1=>cbv<;>exact rfl
 have s1:size 1≤1:=o_lv (by omega)
 refine G0 ?_;try with_reducible exact tt
 refine AW.loopT (α:=Nat×Nat) 3 (fun _=>[]) (fun p=>[(0,⟨42,[.d (natW p.1)]⟩),(1,⟨42,[.d (natW p.2)]⟩)]) (fun p=>(p=(1,b)∨(p=(b,1)∧1<b)∨p=(1,0))) (fun p=>if p=(1,b)∧0<b then 3 else if p.2=0 then 1 else 2) (1,b) ?_ ?_ (.inl rfl) ?_ ?_ ?_
 ·simp
 ·simp
 ·simp
 ·simp
 rintro ⟨x,y⟩ hxy
 simp
 have hy:size y≤1000000∧size x≤1000000:=by
  rcases hxy with h | ⟨h,_⟩ | h<;>cases h
  ·exact ⟨hbs,by omega⟩
  ·exact ⟨by omega,hbs⟩
  ·exact ⟨by rw [show size 0=0 from rfl];omega,by omega⟩
 refine G0 ?_;try with_reducible exact tt
 refine CallS.pu (o_jm y) (R0 ?_);try with_reducible exact tt
 by_cases h0:y=0
 ·subst h0
  have hx:x=1:=by
   rcases hxy with h | ⟨h,_⟩ | h<;>cases h
   ·omega
   ·rfl
  subst hx
  simp
  refine AW.cond rfl (fun h=>?_) (fun h=>?_)
  ·simp at h
  refine AW.exit ?_
  (try (simp -implicitDefEqProofs;try simp (disch:=omega) only [w64,wu64]))
  refine G0 ?_;try with_reducible exact tt
  refine CallS.pu (o_jl (words 1) (o_jc 1) (by unfold size at s1;omega)) (R0 ?_);try with_reducible exact tt
  refine Sub1.of ?_
  rw [o_jb]
 ·refine AW.cond rfl (fun h=>?_) (fun h=>?_)
  ·refine G0 ?_;try with_reducible exact tt
   have hd:y<18446744073709551616∨x<y:=by
    rcases hxy with h | ⟨h,h1⟩ | h<;>cases h
    ·rcases Nat.lt_or_ge 1 b with h | h
     ·exact .inr h
     ·exact .inl (by omega)
    ·exact .inl (by omega)
    ·exact absurd rfl h0
   refine CallS.pu (o_m8 x y hy.2 (by omega) hd hy.1) (R0 ?_);try with_reducible exact tt
   rcases hxy with h | ⟨h,h1⟩ | h<;>cases h
   ·rcases Nat.lt_or_ge 1 b with h | h
    ·refine .inr (.inl ⟨b,1,⟨⟨rfl,rfl⟩,h⟩,?_,Subs.refl _,?_⟩)
     ·rw [if_neg (by omega),if_neg (by omega),if_pos ⟨⟨rfl,rfl⟩,hb⟩]
      omega
     ·rw [Nat.mod_eq_of_lt h];exact Subs.refl _
    ·obtain rfl:b=1:=by omega
     exact .inr (.inr ⟨by simp,Subs.refl _,by simp⟩)
   ·refine .inr (.inr ⟨?_,Subs.refl _,by rw [Nat.mod_one];exact Subs.refl _⟩)
    rw [if_neg (by omega),if_neg (by omega),if_neg (by omega)]
    omega
   ·exact absurd rfl h0
  ·simp at h
   exact absurd h h0

theorem o_ma (b:Nat) (h0:0<b) (hb:size b≤1000000):Eqn Tryz.prog o_bk [.d (.agg [natW 1,.bool false]),.d (.agg [natW b])] [] (.d (.agg [natW 1,.bool false,natW (b-1)])) []:=by
 refine Eqn.pure o_bm (o_5e _) ?_
 refine cc (c':=?z32) ?_ ?_
 case refine_1=>cbv<;>exact rfl
 have s1:size 1≤1:=o_lv (by omega)
 have h1:=o_m8 1 1 (by omega) (by omega) (.inl (by omega)) (by omega)
 have h2:=o_m8 b 1 hb (by omega) (.inl (by omega)) (by omega)
 rw [Nat.div_one] at h1 h2
 refine G0 ?_;try with_reducible exact tt
 refine CallS.pu (o_lx 1 false) (R0 ?_);try with_reducible exact tt
 refine CallS.pu (o_m9 b h0 hb) (R0 ?_);try with_reducible exact tt
 refine CallS.pu (o_lx 1 false) (R0 ?_);try with_reducible exact tt
 refine CallS.pu (h1) (R0 ?_);try with_reducible exact tt
 refine CallS.pu (h2) (R0 ?_);try with_reducible exact tt
 refine CallS.pf 8 1 ⟨105,_⟩ [.int .u64 (1:Nat)] (o_jl [1] (o_kh (by omega)) (by simp)) (by first | rfl | (simp;done)) (R0 ?_);try with_reducible exact tt
 refine CallS.pu (o_k6 b 1 hb (by omega)) (R0 ?_);try with_reducible exact tt
 refine CallS.pu (o_ly 1 false) (R0 ?_);try with_reducible exact tt
 refine CallS.pu (o_lw 1) (R0 ?_);try with_reducible exact tt

theorem o_mb (k:Nat) (hk:k≤8192):size (2^k)≤129:=o_m3 (n:=k+1) (Nat.pow_lt_pow_right (by omega) (Nat.lt_succ_self _)) (by omega)
theorem o_mc (k:Nat) (hk:k≤8192):Eqn Tryz.prog o_cn [.d (.int .i64 k)] [] (.tup [.d (.agg [natW 1,.bool false,natW (2^k-1)]),.d (.int .i64 0)]) []:=by
 refine Eqn.pure o_cp (o_k0 _ _) ?_
 refine cc (c':=?z33) ?_ ?_
 case refine_1=>cbv<;>exact rfl
 have hs:=o_mb k hk
 have hp:=Nat.two_pow_pos k
 have s1:size 1≤1:=o_lv (by omega)
 have h1:=o_kf 1 k (by omega) hk
 rw [Nat.one_mul] at h1
 generalize 2^k=b at *
 refine G0 ?_;try with_reducible exact tt
 refine CallS.pf 1 1 ⟨105,_⟩ [.int .u64 (1:Nat)] (o_jl [1] (o_kh (by omega)) (by simp)) (by first | rfl | (simp;done)) (R0 ?_);try with_reducible exact tt
 refine CallS.pu (h1) (R0 ?_);try with_reducible exact tt
 refine AW.cond rfl (fun h=>?_) (fun h=>?_)
 ·simp at h
 refine G0 ?_;try with_reducible exact tt
 refine CallS.pu (o_lz 1 (by omega)) (R0 ?_);try with_reducible exact tt
 refine CallS.pu (o_ma b hp (by omega)) (R0 ?_);try with_reducible exact tt
end
section
def wordsN:Nat→Nat→List Nat
 | 0,_=>[]
 | m+1,x=>x%18446744073709551616::wordsN m (x/18446744073709551616)
theorem o_md:∀m x,(wordsN m x).length=m
 | 0,_=>rfl
 | m+1,x=>by simp [wordsN,o_md m]
theorem o_me:∀m x,small (wordsN m x)
 | 0,_=>by simp [wordsN,small]
 | m+1,x=>by
  intro y hy
  rw [wordsN,List.mem_cons] at hy
  rcases hy with rfl | hy
  ·omega
  ·exact o_me m _ y hy
theorem o_mf:∀m x,x<18446744073709551616^m→wval (wordsN m x)=x
 | 0,x,h=>by simp at h;simp [wordsN,wval,h]
 | m+1,x,h=>by
  rw [wordsN,wval,o_mf m _ (by rw [Nat.pow_succ] at h;rw [Nat.div_lt_iff_lt_mul (by decide)];exact h)]
  omega
theorem o_mg:∀{l:List Nat},small l→wordsN l.length (wval l)=l
 | [],_=>rfl
 | x::l,h=>by
  have hx:=h x (by simp)
  have hl:small l:=fun y hy=>h y (by simp [hy])
  rw [List.length_cons,wordsN,wval]
  congr 1
  ·omega
  ·rw [show (x+18446744073709551616*wval l)/18446744073709551616=wval l by omega];exact o_mg hl
theorem o_mh {l:List Nat} {m x:Nat} (h:small l) (hl:l.length=m) (hv:wval l=x):l=wordsN m x:=by rw [←hl,←hv,o_mg h]

def ovr (ws:List Nat) (k:Nat) (l:List Nat):List Nat:=ws.take k++(l++ws.drop (k+l.length))
theorem o_mi {ws:List Nat} {k:Nat} {l:List Nat} (h:k+l.length≤ws.length):(ovr ws k l).length=ws.length:=by simp [ovr];omega
theorem o_mj {ws:List Nat} {k:Nat} {l:List Nat} (h:small ws) (hl:small l):small (ovr ws k l):=by
 intro x hx
 simp only [ovr,List.mem_append] at hx
 rcases hx with hx | hx | hx
 ·exact h x (List.mem_of_mem_take hx)
 ·exact hl x hx
 ·exact h x (List.mem_of_mem_drop hx)
theorem o_mk (ws:List Nat) (k:Nat):ovr ws k []=ws:=by simp [ovr]
theorem o_ml {ws:List Nat} {k:Nat} {l:List Nat} (h:k+l.length<ws.length):(ovr ws k l).getD (k+l.length) 0=ws.getD (k+l.length) 0:=by
 simp only [ovr,List.getD_eq_getElem?_getD]
 congr 1
 rw [List.getElem?_append_right (by rw [List.length_take];omega),List.length_take,Nat.min_eq_left (by omega),List.getElem?_append_right (by omega),List.getElem?_drop]
 congr 1;omega
theorem o_mm {ws:List Nat} {k:Nat} {l:List Nat} (h:k+l.length<ws.length) (v:Nat):(ovr ws k l).set (k+l.length) v=ovr ws k (l++[v]):=by
 have e:ws.drop (k+l.length)=ws.getD (k+l.length) 0::ws.drop (k+(l.length+1)):=by
  rw [List.getD_eq_getElem?_getD,List.getElem?_eq_getElem h,Option.getD_some,←Nat.add_assoc]
  exact List.drop_eq_getElem_cons h
 simp only [ovr]
 rw [List.set_append_right _ _ (by rw [List.length_take];omega),List.length_take,Nat.min_eq_left (by omega),show k+l.length-k=l.length by omega,List.set_append_right _ _ (by omega),Nat.sub_self,e]
 simp
theorem o_mn {ws:List Nat} {k:Nat} {l r:List Nat} (h:k+l.length≤ws.length) (hl:l.length≤r.length):ovr (ovr ws k l) k r=ovr ws k r:=by
 simp only [ovr]
 have h1:(ws.take k).length=k:=by rw [List.length_take];omega
 rw [List.take_append_of_le_length (by omega),List.take_of_length_le (by omega)]
 congr 2
 rw [List.drop_append,List.drop_eq_nil_of_le (by omega),List.nil_append,h1,List.drop_append,List.drop_eq_nil_of_le (by omega),List.nil_append,List.drop_drop]
 congr 1;omega
theorem o_mo {ws:List Nat} {k:Nat} {l:List Nat} (h:k+l.length≤ws.length):((ovr ws k l).drop k).take l.length=l:=by
 have h1:(ws.take k).length=k:=by rw [List.length_take];omega
 simp only [ovr]
 rw [List.drop_append,List.drop_eq_nil_of_le (by omega),List.nil_append,h1,Nat.sub_self,List.drop_zero,List.take_append_of_le_length (by omega),List.take_of_length_le (by omega)]
theorem o_mp {ws:List Nat} {k n i:Nat} (h:i<n):((ws.drop k).take n).getD i 0=ws.getD (k+i) 0:=by
 simp only [List.getD_eq_getElem?_getD,List.getElem?_take,if_pos h,List.getElem?_drop]
theorem o_mq {ws:List Nat} {k n:Nat} (h:k+n≤ws.length):((ws.drop k).take n).length=n:=by simp;omega
theorem o_mr {ws:List Nat} (h:small ws) (k:Nat):small (ws.drop k):=fun x hx=>h x (List.mem_of_mem_drop hx)
theorem o_ms {l:List Nat} (h:small l) {v:Nat} (hv:v<18446744073709551616):small (l++[v]):=by
 intro x hx
 rw [List.mem_append,List.mem_singleton] at hx
 rcases hx with hx | rfl
 ·exact h x hx
 ·exact hv
theorem o_mt (l:List Nat) (v:Nat):wval (l++[v])=wval l+18446744073709551616^l.length*v:=by
 rw [o_ie];simp [wval]
theorem o_mu:small []:=by simp [small]

theorem o_mv {l0 g D0 U0 p bo c x y lo hi l2 k2 nb z:Nat} (hv:l0+g*D0=U0+p*(bo+c)) (hyg:y*g=hi*18446744073709551616+lo) (h1:lo+c=l2+18446744073709551616*k2) (h2:x+18446744073709551616*nb=z+l2+bo) :
  l0+p*z+g*(D0+p*y)=U0+p*x+p*18446744073709551616*(nb+(hi+k2)):=by
 have e1:p*x+18446744073709551616*(p*nb)=p*z+p*l2+p*bo:=by
  have:=congrArg (p * ·) h2
  simp only [Nat.mul_add] at this
  rw [←Nat.mul_assoc,Nat.mul_comm p 18446744073709551616,Nat.mul_assoc] at this
  exact this
 have e2:p*lo+p*c=p*l2+18446744073709551616*(p*k2):=by
  have:=congrArg (p * ·) h1
  simp only [Nat.mul_add] at this
  rw [←Nat.mul_assoc p 18446744073709551616,Nat.mul_comm p 18446744073709551616,Nat.mul_assoc 18446744073709551616] at this
  exact this
 have e3:g*(p*y)=18446744073709551616*(p*hi)+p*lo:=by
  have:=congrArg (p * ·) hyg
  simp only [Nat.mul_add] at this
  rw [←Nat.mul_assoc p hi,Nat.mul_comm (p*hi),←Nat.mul_assoc p y g,Nat.mul_comm (p*y) g] at this
  exact this
 have e4:p*18446744073709551616*(nb+(hi+k2))=18446744073709551616*(p*nb)+18446744073709551616*(p*hi)+18446744073709551616*(p*k2):=by
  rw [Nat.mul_comm p,Nat.mul_assoc,Nat.mul_add,Nat.mul_add,Nat.mul_add,Nat.mul_add];omega
 rw [Nat.mul_add,e3,e4]
 rw [Nat.mul_add] at hv
 omega
theorem o_mw {ws:List Nat} {n:Nat} (h:small ws) (hl:ws.length=n):wval ws<18446744073709551616^n:=by rw [←hl];exact o_ig h
theorem o_mx {u:List Nat} {n z c b x nb gD wl Un:Nat} {l':List Nat} (h1:wval l'=wl+18446744073709551616^n*z) (hv:wl+gD=Un+18446744073709551616^n*(b+c)) (hux:wval u=Un+18446744073709551616^n*x) (hzb:x+18446744073709551616*nb=z+c+b) (hnb:nb≤1) (hs:small l') (hl:l'.length=n+1) (hus:small u) (hul:u.length=n+1) :
  nb=(if wval u<gD then 1 else 0)∧l'=wordsN (n+1) (wval u+(if wval u<gD then 18446744073709551616^(n+1) else 0)-gD):=by
 have e1:wval l'+gD=wval u+18446744073709551616^(n+1)*nb:=by
  have:=congrArg (18446744073709551616^n * ·) hzb
  simp only [Nat.mul_add] at this
  rw [←Nat.mul_assoc,←Nat.pow_succ] at this
  rw [Nat.mul_add] at hv
  simp only [Nat.succ_eq_add_one] at this
  omega
 have hlt:=o_mw hs hl
 have hult:=o_mw hus hul
 generalize 18446744073709551616^(n+1)=M at *
 have hc:nb=0∨nb=1:=by omega
 rcases hc with rfl | rfl
 ·rw [if_neg (by omega),if_neg (by omega)]
  exact ⟨rfl,o_mh hs hl (by omega)⟩
 ·rw [if_pos (by omega),if_pos (by omega)]
  exact ⟨rfl,o_mh hs hl (by omega)⟩
theorem o_my {u:List Nat} {m gD:Nat} (hus:small u) (hul:u.length=m) (hg:gD≤wval u+18446744073709551616^m):wval (wordsN m (wval u+(if wval u<gD then 18446744073709551616^m else 0)-gD))+gD=wval u+18446744073709551616^m*(if wval u<gD then 1 else 0):=by
 have hult:=o_mw hus hul
 by_cases h:wval u<gD
 ·rw [if_pos h,if_pos h,o_mf _ _ (by omega)];omega
 ·rw [if_neg h,if_neg h,o_mf _ _ (by omega)];omega
theorem o_mz {ws:List Nat} {k:Nat} {l:List Nat} {j:Nat} (h:k+l.length≤ws.length) (hj:j<l.length):(ovr ws k l).getD (k+j) 0=l.getD j 0:=by
 have:=o_mo h
 rw [←o_mp (n:=l.length) hj,this]
theorem o_n0 {wr p c wl wd x y z nc:Nat} (hv:wr+p*c=wl+wd) (h:x+y+c=z+18446744073709551616*nc):wr+p*z+p*18446744073709551616*nc=wl+p*x+(wd+p*y):=by
 have:=congrArg (p * ·) h
 simp only [Nat.mul_add] at this
 rw [←Nat.mul_assoc] at this
 omega
theorem o_n1 {wr p c wl wd wL x v nv:Nat} (hv:wr+p*c=wl+wd) (hl:wL=wl+p*x) (h:x+c=v+18446744073709551616*nv):wL+wd=wr+p*v+p*18446744073709551616*nv:=by
 have:=congrArg (p * ·) h
 simp only [Nat.mul_add] at this
 rw [←Nat.mul_assoc] at this
 omega
theorem o_n2 {d:List Nat} {n:Nat} (_:n<d.length):d.getD n 0*18446744073709551616^n≤wval d:=by
 have h1:=o_iz d n
 have h2:wval d=wval (d.take (n+1))+18446744073709551616^(d.take (n+1)).length*wval (d.drop (n+1)):=by rw [←o_ie,List.take_append_drop]
 rw [h2,h1,Nat.mul_comm]
 omega
theorem o_n3 {u:List Nat} {n m:Nat} (hs:small u) (hl:u.length=m+1) (hm:m=n+1):wval u/18446744073709551616^n=u.getD m 0*18446744073709551616+u.getD n 0:=by
 have h1:=o_iz u n
 have h2:=o_iz u m
 rw [List.take_of_length_le (by omega)] at h2
 have h3:=o_j8 hs n
 have hp:0<18446744073709551616^n:=Nat.pow_pos (by decide)
 rw [h2,hm,h1,Nat.pow_succ,Nat.mul_assoc,Nat.add_assoc,←Nat.mul_add,Nat.add_mul_div_left _ _ hp,Nat.div_eq_of_lt h3,Nat.zero_add,Nat.mul_comm 18446744073709551616]
 omega
theorem o_n4 {U0 W1 Bk D S Q BQ:Nat} (h:U0=W1+Bk*S+D*BQ) (hq:BQ=Bk*18446744073709551616*Q):U0=W1+Bk*(S%D)+D*(Bk*(S/D+18446744073709551616*Q)):=by
 have h1:=Nat.div_add_mod S D
 rw [h,hq]
 have e1:Bk*S=Bk*(S%D)+D*(Bk*(S/D)):=by
  conv=>lhs;rw [←h1]
  rw [Nat.mul_add,Nat.mul_left_comm,Nat.add_comm]
 rw [e1,Nat.mul_add Bk,Nat.mul_add D,Nat.mul_assoc Bk]
 omega
theorem o_n5 {ws:List Nat} (k n:Nat) (h:k+n≤ws.length):wval (ws.take (k+n))=wval (ws.take k)+18446744073709551616^k*wval ((ws.drop k).take n):=by
 have e:ws.take (k+n)=ws.take k++(ws.drop k).take n:=by rw [List.take_add]
 rw [e,o_ie,List.length_take,Nat.min_eq_left (by omega)]
theorem o_n6 {n x:Nat} (h:x<18446744073709551616^n):(wordsN (n+1) x).take n=wordsN n x:=by
 have:∀(n x:Nat),(wordsN (n+1) x).take n=wordsN n x:=by
  intro n
  induction n with
  | zero=>intro x;simp [wordsN]
  | succ n ih=>intro x;rw [wordsN,List.take_succ_cons,ih,wordsN]
 exact this n x
theorem o_n7 {ws:List Nat} {k:Nat} {l:List Nat} (h:k≤ws.length):(ovr ws k l).take k=ws.take k:=by
 simp only [ovr]
 rw [List.take_append_of_le_length (by rw [List.length_take];omega),List.take_take,Nat.min_self]
theorem o_n8 {ws:List Nat} {k m:Nat} (h:k<ws.length):wval ((ws.drop k).take (m+1))=ws.getD k 0+18446744073709551616*wval ((ws.drop (k+1)).take m):=by
 rw [List.drop_eq_getElem_cons h,List.take_succ_cons,wval,List.getD_eq_getElem?_getD,List.getElem?_eq_getElem h];rfl
theorem o_n9 {ws:List Nat} {k n x:Nat} (h:k+(n+1)≤ws.length) (hx:x<18446744073709551616^n):wval (((ovr ws k (wordsN (n+1) x)).drop k).take n)=x:=by
 have h1:=o_mo (ws:=ws) (k:=k) (l:=wordsN (n+1) x) (by rw [o_md];exact h)
 rw [o_md] at h1
 have h2:((ovr ws k (wordsN (n+1) x)).drop k).take n=(((ovr ws k (wordsN (n+1) x)).drop k).take (n+1)).take n:=by rw [List.take_take,Nat.min_eq_left (by omega)]
 rw [h2,h1,o_n6 hx,o_mf _ _ hx]
theorem o_na {k:Nat} {q:List Nat} (v:Nat):(List.replicate (k+1) 0++q).set k v=List.replicate k 0++v::q:=by
 rw [List.replicate_succ',List.append_assoc,List.set_append_right _ _ (by simp)]
 simp
theorem o_nb {Bw:List Nat} {s:Nat} (hb:wval Bw*2^s<18446744073709551616^Bw.length):wval ((movedL s 0 Bw).take Bw.length)=wval Bw*2^s:=by
 have h1:=o_in s Bw 0
 have h2:=o_iz (movedL s 0 Bw) Bw.length
 rw [List.take_of_length_le (by rw [o_im];omega),h1,Nat.add_zero] at h2
 rcases Nat.eq_zero_or_pos ((movedL s 0 Bw).getD Bw.length 0) with h | h
 ·rw [h,Nat.mul_zero,Nat.add_zero] at h2;exact h2.symm
 ·exfalso
  have:18446744073709551616^Bw.length*1≤18446744073709551616^Bw.length*(movedL s 0 Bw).getD Bw.length 0:=Nat.mul_le_mul_left _ h
  omega
end
section
open Go.RowKit
theorem o_nc (θ:Nat→Nat) (ws:List Nat):V.rens θ (uW ws)=uW ws:=by
 have h:=o_61 θ (ws.map fun x:Nat=>D.int .u64 x)
 rw [List.map_map] at h
 exact h
theorem o_nd (ws:List Nat):plainL (uW ws):=⟨o_ls 0 ws,fun θ=>o_nc θ ws⟩

theorem o_ne {y g hi lo:Nat} (hy:y<18446744073709551616) (hg:g<18446744073709551616) (h1:hi=y*g/18446744073709551616) (h2:lo=y*g%18446744073709551616):y*g=hi*18446744073709551616+lo∧lo<18446744073709551616∧hi+1<18446744073709551616:=by
 have hp:y*g≤18446744073709551615*18446744073709551615:=Nat.mul_le_mul (by omega) (by omega)
 generalize y*g=p at *
 omega

def takeR (ws d:List Nat) (k g:Nat):List Nat:=wordsN (d.length+1) (wval ((ws.drop k).take (d.length+1))+(if wval ((ws.drop k).take (d.length+1))<g*wval d then 18446744073709551616^(d.length+1) else 0)-g*wval d)
set_option maxHeartbeats 4000000 in
theorem o_nf (ws d:List Nat) (k g:Nat) (hs:small ws) (hd:small d) (hk:k+d.length+1≤ws.length) (hn:ws.length≤1000000) (hg:g<18446744073709551616) :
  Eqn Tryz.prog o_g8 [.row 0 k (d.length+1),.d (W d),.d (.int .u64 g)] [⟨105,uW ws⟩] (.d (.int .i64 (if wval ((ws.drop k).take (d.length+1))<g*wval d then 1 else 0))) [⟨105,uW (ovr ws k (takeR ws d k g))⟩]:=by
 refine Eqn.obj1 o_ga Plain.ok (o_nd _) ?_
 obtain ⟨u,hu⟩:∃u,u=(ws.drop k).take (d.length+1):=⟨_,rfl⟩
 have hul:u.length=d.length+1:=by rw [hu];exact o_mq (by omega)
 have hus:small u:=by rw [hu];exact (o_mr hs k).take _
 have hug:∀i,i<d.length+1→u.getD i 0=ws.getD (k+i) 0:=fun i hi=>by rw [hu];exact o_mp hi
 rw [takeR,←hu]
 refine cc (c':=?z34) ?_ ?_
 case refine_1=>cbv<;>exact rfl
 try simp only [W]
 refine G0 ?_;try with_reducible exact tt
 refine AW.loopT (α:=Nat×Nat×Nat×List Nat) 1 (fun s=>[(17,.d (.int .i64 (s.1:Int))),(7,.d (.int .u64 (s.2.1:Int))),(8,.d (.int .u64 (s.2.2.1:Int)))]) (fun s=>[(0,⟨105,uW (ovr ws k s.2.2.2)⟩)]) (fun s=>s.1≤d.length∧s.2.1<18446744073709551616∧s.2.2.1≤1∧s.2.2.2.length=s.1∧small s.2.2.2∧wval s.2.2.2+g*wval (d.take s.1)=wval (u.take s.1)+18446744073709551616^s.1*(s.2.2.1+s.2.1)) (fun s=>d.length-s.1) (0,0,0,[]) ?_ ?_ ⟨Nat.zero_le _,by simp,by simp,rfl,o_mu,by simp [wval]⟩ ?_ ?_ ?_
 ·simp
 ·simp
 ·simp
 ·simp [o_mk,o_ls]
 rintro ⟨i,c,b,l⟩ ⟨hi,hc,hb,hl,hsl,hv⟩
 simp only at hi hc hb hl hsl hv
 simp
 have hol:(uW (ovr ws k l)).length=ws.length:=by rw [o_lp,o_mi (by omega)]
 have hget:=o_lq (ws:=ovr ws k l) (j:=k+i) (by rw [←o_lp,hol];omega)
 have hnx:=o_ml (ws:=ws) (k:=k) (l:=l) (by omega)
 rw [hl] at hnx
 rw [hnx,←hug i (by omega)] at hget
 have hx:=hus.getD i
 have hset:∀v:Nat,(uW (ovr ws k l)).set (k+i) (.d (.int .u64 v))=uW (ovr ws k (l++[v])):=fun v=>by rw [o_lr,←hl,o_mm (by omega)]
 have hki:((k:Int)+i).toNat=k+i:=by omega
 obtain ⟨x,hxd⟩:∃x,x=u.getD i 0:=⟨_,rfl⟩
 rw [←hxd] at hget hx
 by_cases hin:i<d.length
 ·have hin':(i:Int)<d.length:=by omega
  have hy:d[i]<18446744073709551616:=hd _ (List.getElem_mem _)
  have hyd:d[i]=d.getD i 0:=o_jj hin
  have e2:IntKind.i64.wrap ((i:Int)+1)=(i:Int)+1:=w64 (by omega) (by omega)
  refine G1 (fs hin hin') ?_;try with_reducible exact tt
  refine AW.cond rfl (fun h=>?_) (fun h=>?_)
  ·clear h
   refine G1 (fs hin hin') ?_;try with_reducible exact tt
   generalize d[i]=y at hy hyd ⊢
   have hmul:=o_lj y g hy hg
   obtain ⟨hi',hhi⟩:∃q,q=y*g/18446744073709551616:=⟨_,rfl⟩
   obtain ⟨lo,hlo⟩:∃q,q=y*g%18446744073709551616:=⟨_,rfl⟩
   rw [←hhi,←hlo] at hmul
   obtain ⟨hyg,hl0,hh0⟩:=o_ne hy hg hhi hlo
   clear hhi hlo
   obtain ⟨l2,k2,hl1,hll2,hk2⟩:∃l2 k2:Nat,lo+c+0=l2+18446744073709551616*k2∧l2<18446744073709551616∧k2≤1:=⟨(lo+c)%18446744073709551616,(lo+c)/18446744073709551616,by omega,by omega,by omega⟩
   obtain ⟨z,nb,hzb,hz,hnb⟩:∃z nb:Nat,x+18446744073709551616*nb=z+l2+b∧z<18446744073709551616∧nb≤1:=by
    by_cases h:l2+b≤x
    ·exact ⟨x-l2-b,0,by omega,by omega,by omega⟩
    ·exact ⟨x+18446744073709551616-l2-b,1,by omega,by omega,by omega⟩
   have w1:IntKind.u64.wrap ((hi':Int)+k2)=((hi'+k2:Nat):Int):=wu64 (by omega) (by omega)
   have hround:=o_mv hv hyg (by omega:lo+c=l2+18446744073709551616*k2) hzb
   have ht:g*wval (d.take (i+1))=g*(wval (d.take i)+18446744073709551616^i*y):=by rw [o_iz,←hyd]
   have hut:wval (u.take (i+1))=wval (u.take i)+18446744073709551616^i*x:=by rw [o_iz,←hxd]
   have hsn:wval (l++[z])=wval l+18446744073709551616^i*z:=by rw [o_mt,hl]
   rw [←hsn,←ht,←hut,←Nat.pow_succ] at hround
   have hhk:hi'+k2<18446744073709551616:=by omega
   refine CallS.pu (hmul) (R1 (fs hol (fs hget hki)) ?_);try with_reducible exact tt
   generalize hi'+k2=hk at *
   refine CallS.pu (o_jp lo c 0 l2 k2 hl0 hc (by omega) hll2 hl1) (R1 (fs w1 (fs hol (fs hget hki))) ?_);try with_reducible exact tt
   refine CallS.pu (o_jq x l2 b z nb hx hll2 hb hz (by omega)) (R1 (fs hol (fs hki (fs hset e2))) ?_);try with_reducible exact tt
   refine ⟨i+1,hk,nb,l++[z],⟨hin,hhk,hnb,by simp [hl],o_ms hsl hz,hround⟩,by omega,by simp,?_⟩
   exact ⟨Subs.refl _,o_ls _ _⟩
  ·simp [hin,hin'] at h
 ·have h2:i=d.length:=by omega
  subst h2
  rw [List.take_length] at hv
  obtain ⟨z,nb,hzb,hz,hnb⟩:∃z nb:Nat,x+18446744073709551616*nb=z+c+b∧z<18446744073709551616∧nb≤1:=by
   by_cases h:c+b≤x
   ·exact ⟨x-c-b,0,by omega,by omega,by omega⟩
   ·exact ⟨x+18446744073709551616-c-b,1,by omega,by omega,by omega⟩
  refine G0 ?_;try with_reducible exact tt
  refine AW.cond rfl (fun h=>?_) (fun h=>?_)
  ·simp at h
  refine AW.exit ?_
  (try (simp -implicitDefEqProofs;try simp (disch:=omega) only [w64,wu64]))
  refine G1 (fs hol (fs hget hki)) ?_;try with_reducible exact tt
  refine CallS.pu (o_jq x c b z nb hx hc hb hz (by omega)) (R1 (fs hol (fs hki hset)) ?_);try with_reducible exact tt
  have hux:wval u=wval (u.take d.length)+18446744073709551616^d.length*x:=by
   rw [hxd,←o_iz,List.take_of_length_le (by omega)]
  obtain ⟨hnb',hR⟩:=o_mx (n:=d.length) (by rw [o_mt,hl]) hv hux hzb hnb (o_ms hsl hz) (by simp [hl]) hus hul
  rw [←hR]
  refine ⟨Sub1.int ?_,Subs.refl _⟩
  rw [hnb']
  split<;>rfl
end
section
open Go.RowKit
set_option maxHeartbeats 4000000 in
theorem o_ng (ws d:List Nat) (k:Nat) (hs:small ws) (hd:small d) (hd1:1≤d.length) (hk:k+d.length+1≤ws.length) (hn:ws.length≤1000000) (htop:d.getD (d.length-1) 0≠0) (hU:wval ((ws.drop k).take (d.length+1))<wval d*18446744073709551616) :
  Eqn Tryz.prog o_fw [.row 0 k (d.length+1),.d (W d)] [⟨105,uW ws⟩] (.d (.int .u64 (wval ((ws.drop k).take (d.length+1))/wval d:Nat))) [⟨105,uW (ovr ws k (wordsN (d.length+1) (wval ((ws.drop k).take (d.length+1))%wval d)))⟩]:=by
 refine Eqn.obj1 o_fy Plain.ok (o_nd _) ?_
 have htk:=fun g hg=>o_nf ws d k g hs hd hk hn hg
 obtain ⟨u,hu⟩:∃u,u=(ws.drop k).take (d.length+1):=⟨_,rfl⟩
 have hul:u.length=d.length+1:=by rw [hu];exact o_mq (by omega)
 have hus:small u:=by rw [hu];exact (o_mr hs k).take _
 have hug:∀i,i<d.length+1→u.getD i 0=ws.getD (k+i) 0:=fun i hi=>by rw [hu];exact o_mp hi
 simp only [takeR,←hu] at htk hU ⊢
 obtain ⟨n,hdn⟩:∃n,d.length=n+1:=⟨d.length-1,by omega⟩
 have hgn:=o_lq (ws:=ws) (j:=k+d.length) (by omega)
 have hgm:=o_lq (ws:=ws) (j:=k+n) (by omega)
 rw [←hug _ (by omega)] at hgn hgm
 have hwl:=o_lp ws
 have hx1:=hus.getD d.length
 have hx0:=hus.getD n
 have hdt:d[n]?=some (d.getD n 0):=by rw [List.getD_eq_getElem?_getD,List.getElem?_eq_getElem (by omega)];rfl
 have hdt2:d[n]'(by omega)=d.getD n 0:=o_jj (by omega)
 have hdg:=hd.getD n
 rw [hdn,Nat.add_sub_cancel] at htop
 have hUx:wval u/18446744073709551616^n=u.getD d.length 0*18446744073709551616+u.getD n 0:=o_n3 hus (by omega) hdn
 have hDt:d.getD n 0*18446744073709551616^n≤wval d:=o_n2 (by omega)
 generalize u.getD d.length 0=x1 at *
 generalize u.getD n 0=x0 at *
 generalize hdd:d.getD n 0=dt at *
 have hD0:0<wval d:=Nat.lt_of_lt_of_le (Nat.mul_pos (by omega) (Nat.pow_pos (by decide))) hDt
 have ed:IntKind.i64.wrap ((d.length:Int)-1)=(n:Int):=by rw [w64 (by omega) (by omega)];omega
 have hkd:((k:Int)+d.length).toNat=k+d.length:=by omega
 have hnd:(n:Int)<d.length:=by omega
 have hnd':n<d.length:=by omega
 obtain ⟨g,hg,hgD,hgc⟩:∃g:Nat,g≤18446744073709551615∧wval u/wval d≤g∧(if x1<dt then g=(x1*18446744073709551616+x0)/dt else g=18446744073709551615):=by
  by_cases h:x1<dt
  ·refine ⟨(x1*18446744073709551616+x0)/dt,?_,o_ky (B:=18446744073709551616) (by decide) (Nat.pow_pos (by decide)) hUx hDt (by omega),by rw [if_pos h]⟩
   have:(x1*18446744073709551616+x0)/dt<18446744073709551616:=by
    rw [Nat.div_lt_iff_lt_mul (by omega)]
    have:(x1+1)*18446744073709551616≤dt*18446744073709551616:=Nat.mul_le_mul_right _ h
    omega
   omega
  ·refine ⟨18446744073709551615,by omega,?_,by rw [if_neg h]⟩
   have:wval u/wval d<18446744073709551616:=by rw [Nat.div_lt_iff_lt_mul hD0,Nat.mul_comm];exact hU
   omega
 refine cc (c':=?z35) ?_ ?_
 case refine_1=>cbv<;>exact rfl
 try simp only [W] at htk ⊢
 repeat (first | refine AW.seq ?_ | refine AW.block ?_)
 refine AW.reg mix ?_
 (simp -implicitDefEqProofs;try simp (disch:=omega) only [w64,wu64])
 try refine need.of (by first | omega | kernel_rfl) ?_
 repeat (first | refine AW.seq ?_ | refine AW.block ?_)
 refine AW.reg mix ?_
 (simp -implicitDefEqProofs;try simp (disch:=omega) only [w64,wu64])
 try refine need.of (by first | omega | kernel_rfl) ?_
 repeat (first | refine AW.seq ?_ | refine AW.block ?_)
 refine AW.reg mix ?_
 (simp -implicitDefEqProofs;try simp (disch:=omega) only [w64,wu64])
 try refine need.of (by first | omega | kernel_rfl) ?_
 refine AW.cut 1 [(6,.d (.int .u64 g))] [(0,⟨105,uW ws⟩)] (by simp) (by simp) ?_ ?_
 ·by_cases hlt:x1<dt
  ·rw [if_pos hlt] at hgc
   have hlt':(x1:Int)<dt:=by omega
   refine G1 (fs hwl (fs hgn (fs hgm (fs ed (fs hkd (fs hnd (fs hnd' (fs hdt (fs hdt2 (fs hlt hlt')))))))))) ?_;try with_reducible exact tt
   refine AW.cond rfl (fun h=>?_) (fun h=>?_)
   ·have hdiv:=o_lm x1 x0 dt hlt hx0 hdg
    rw [←hgc] at hdiv
    refine G1 (fs hwl (fs hgn (fs hgm (fs ed (fs hkd (fs hnd (fs hnd' hdt))))))) ?_;try with_reducible exact tt
    simp only [hdt2]
    refine CallS.pu (hdiv) (R0 ?_);try with_reducible exact tt
    exact o_ls _ _
   ·simp [hlt,hlt'] at h
  ·rw [if_neg hlt] at hgc
   have hlt':¬(x1:Int)<dt:=by omega
   refine G1 (fs hwl (fs hgn (fs hgm (fs ed (fs hkd (fs hnd (fs hnd' (fs hdt (fs hdt2 (fs hlt hlt')))))))))) ?_;try with_reducible exact tt
   refine AW.cond rfl (fun h=>?_) (fun h=>?_)
   ·simp [hlt,hlt'] at h
   ·refine AW.skip ?_
    subst hgc
    simp [o_ls]
 clear hgc
 have hDn:wval d<18446744073709551616^d.length:=o_ig hd
 have hgM:g*wval d≤wval u+18446744073709551616^(d.length+1):=by
  rw [Nat.pow_succ]
  have:g*wval d≤18446744073709551616*18446744073709551616^d.length:=Nat.mul_le_mul (by omega) (by omega)
  rw [Nat.mul_comm _ 18446744073709551616]
  omega
 obtain ⟨t0,l0,ht0,hl0,hsl0,hv0,hE0⟩:∃(t0:Nat) (l0:List Nat),t0≤1∧l0.length=d.length+1∧small l0∧wval l0+g*wval d=wval u+18446744073709551616^(d.length+1)*t0 ∧
   Eqn Tryz.prog o_g8 [.row 0 k (d.length+1),.d (.sl d.length (d.map fun x:Nat=>D.int .u64 x)),.d (.int .u64 g)] [⟨105,uW ws⟩] (.d (.int .i64 t0)) [⟨105,uW (ovr ws k l0)⟩]:=by
  refine ⟨if wval u<g*wval d then 1 else 0,_,by split<;>omega,o_md _ _,o_me _ _,o_my hus hul hgM,?_⟩
  have:=htk g (by omega)
  rw [show ((if wval u<g*wval d then 1 else 0:Nat):Int)=if wval u<g*wval d then 1 else 0 by split<;>rfl]
  exact this
 clear htk hgM
 simp
 refine G0 ?_;try with_reducible exact tt
 refine CallS.o1 0 (hE0) (hO:=o_nd _) (hO':=(o_nd _)) (R0 ?_);try with_reducible exact tt
 refine AW.loopT (α:=Nat×Nat×List Nat) 1 (fun s=>[(7,.d (.int .i64 (s.1:Nat))),(6,.d (.int .u64 (s.2.1:Nat)))]) (fun s=>[(0,⟨105,uW (ovr ws k s.2.2)⟩)]) (fun s=>s.1≤1∧s.2.1≤18446744073709551615∧wval u/wval d≤s.2.1∧s.2.2.length=d.length+1∧small s.2.2∧wval s.2.2+s.2.1*wval d=wval u+18446744073709551616^(d.length+1)*s.1) (fun s=>s.2.1) (t0,g,l0) ?_ ?_ ⟨ht0,hg,hgD,hl0,hsl0,hv0⟩ ?_ ?_ ?_
 ·simp
 ·simp
 ·simp
 ·simp [o_ls]
 clear hE0 hl0 hsl0 hv0 ht0 hg hgD
 rintro ⟨t,g,l⟩ ⟨ht,hg,hgD,hl,hsl,hv⟩
 simp only at ht hg hgD hl hsl hv
 simp
 rcases (by omega:t=0∨t=1) with rfl | rfl
 ·rw [Nat.mul_zero,Nat.add_zero] at hv
  obtain ⟨hq,hr⟩:=o_l0 hD0 hgD hv
  have hlw:=o_mh hsl hl hr.symm
  refine G0 ?_;try with_reducible exact tt
  refine AW.cond rfl (fun h=>?_) (fun h=>?_)
  ·simp at h
  refine AW.exit ?_
  (try (simp -implicitDefEqProofs;try simp (disch:=omega) only [w64,wu64]))
  refine G0 ?_;try with_reducible exact tt
  rw [←hlw]
  refine ⟨Sub1.int ?_,Subs.refl _⟩
  rw [←hq];rfl
 ·rw [Nat.mul_one] at hv
  obtain ⟨hg0,hn1,hn2⟩:=o_kz (P:=18446744073709551616^d.length) (by rw [Nat.pow_succ,Nat.mul_comm]) hDn hD0 hg (by rw [←hl];exact o_ig hsl) hv
  have ew:IntKind.u64.wrap ((g:Int)-1)=((g-1:Nat):Int):=by rw [wu64 (by omega) (by omega)];omega
  refine G1 ew ?_;try with_reducible exact tt
  refine AW.cond rfl (fun h=>?_) (fun h=>?_)
  rotate_left
  ·simp at h
  refine G1 ew ?_;try with_reducible exact tt
  have hwlen:(ovr ws k l).length=ws.length:=o_mi (by omega)
  have hlg:∀j,j<d.length+1→(ovr ws k l).getD (k+j) 0=l.getD j 0:=fun j hj=>o_mz (by omega) (by omega)
  have hws1:small (ovr ws k l):=o_mj hs hsl
  have hoo:∀r,r.length=d.length+1→ovr (ovr ws k l) k r=ovr ws k r:=fun r hr=>o_mn (by omega) (by omega)
  refine AW.loopT (α:=Nat×Nat×List Nat) 1 (fun s=>[(53,.d (.int .i64 (s.1:Nat))),(8,.d (.int .u64 (s.2.1:Nat)))]) (fun s=>[(0,⟨105,uW (ovr (ovr ws k l) k s.2.2)⟩)]) (fun s=>s.1≤d.length∧s.2.1≤1∧s.2.2.length=s.1∧small s.2.2∧wval s.2.2+18446744073709551616^s.1*s.2.1=wval (l.take s.1)+wval (d.take s.1)) (fun s=>d.length-s.1) (0,0,[]) ?_ ?_ ⟨Nat.zero_le _,by simp,rfl,o_mu,by simp [wval]⟩ ?_ ?_ ?_
  ·simp
  ·simp
  ·simp
  ·simp [o_ls,o_mk]
  rintro ⟨j,c,r⟩ ⟨hj,hc,hr,hsr,hv2⟩
  simp only at hj hc hr hsr hv2
  simp
  have hol:(uW (ovr (ovr ws k l) k r)).length=ws.length:=by rw [o_lp,o_mi (by omega),hwlen]
  have hget:=o_lq (ws:=ovr (ovr ws k l) k r) (j:=k+j) (by rw [←o_lp,hol];omega)
  have hnx:=o_ml (ws:=ovr ws k l) (k:=k) (l:=r) (by omega)
  rw [hr] at hnx
  rw [hnx,hlg j (by omega)] at hget
  have hx:=hsl.getD j
  have hset:∀v:Nat,(uW (ovr (ovr ws k l) k r)).set (k+j) (.d (.int .u64 v))=uW (ovr (ovr ws k l) k (r++[v])):=fun v=>by rw [o_lr,←hr,o_mm (by omega)]
  have hkj:((k:Int)+j).toNat=k+j:=by omega
  obtain ⟨x,hxd⟩:∃x,x=l.getD j 0:=⟨_,rfl⟩
  rw [←hxd] at hget hx
  by_cases hjn:j<d.length
  ·have hjn':(j:Int)<d.length:=by omega
   have hy:d[j]<18446744073709551616:=hd _ (List.getElem_mem _)
   have hyd:d[j]=d.getD j 0:=o_jj hjn
   have e2:IntKind.i64.wrap ((j:Int)+1)=((j+1:Nat):Int):=by rw [w64 (by omega) (by omega)];omega
   refine G1 (fs hjn hjn') ?_;try with_reducible exact tt
   refine AW.cond rfl (fun h=>?_) (fun h=>?_)
   rotate_left
   ·simp [hjn,hjn'] at h
   clear h
   refine G1 (fs hjn (fs hjn' (fs hol (fs hget hkj)))) ?_;try with_reducible exact tt
   generalize d[j]=y at hy hyd ⊢
   obtain ⟨z,nc,hzc,hz,hnc⟩:∃z nc:Nat,x+y+c=z+18446744073709551616*nc∧z<18446744073709551616∧nc≤1:=⟨(x+y+c)%18446744073709551616,(x+y+c)/18446744073709551616,by omega,by omega,by omega⟩
   have hround:=o_n0 hv2 hzc
   rw [show wval r+18446744073709551616^j*z=wval (r++[z]) by rw [o_mt,hr],show wval (l.take j)+18446744073709551616^j*x=wval (l.take (j+1)) by rw [o_iz,←hxd],show wval (d.take j)+18446744073709551616^j*y=wval (d.take (j+1)) by rw [o_iz,←hyd],←Nat.pow_succ] at hround
   refine CallS.pu (o_jp x y c z nc hx hy hc hz hzc) (R1 (fs hol (fs hkj (fs hset e2))) ?_);try with_reducible exact tt
   exact ⟨j+1,nc,r++[z],⟨hjn,hnc,by simp [hr],o_ms hsr hz,hround⟩,by omega,by simp,Subs.refl _,o_ls _ _⟩
  ·have h2:j=d.length:=by omega
   subst h2
   rw [List.take_length] at hv2
   have hlx:wval l=wval (l.take d.length)+18446744073709551616^d.length*x:=by rw [hxd,←o_iz,List.take_of_length_le (by omega)]
   obtain ⟨v,nv,hvc,hvl,hnv⟩:∃v nv:Nat,x+c=v+18446744073709551616*nv∧v<18446744073709551616∧nv≤1:=⟨(x+c)%18446744073709551616,(x+c)/18446744073709551616,by omega,by omega,by omega⟩
   have wv:IntKind.u64.wrap ((x:Int)+c)=(v:Int):=by rw [IntKind.wrap_u64];omega
   have hrv:(r++[v]).length=d.length+1:=by simp [hr]
   have hsum:=o_n1 (p:=18446744073709551616^d.length) (wr:=wval r) (c:=c) (x:=x) hv2 hlx hvc
   rw [show wval r+18446744073709551616^d.length*v=wval (r++[v]) by rw [o_mt,hr],←Nat.pow_succ] at hsum
   have hrlt:=o_ig (o_ms hsr hvl)
   rw [hrv] at hrlt
   replace hset:=hset v
   rw [hoo _ hrv] at hset
   have hget2:=o_lq (ws:=ovr ws k (r++[v])) (j:=k+d.length) (by rw [o_mi (by omega)];omega)
   rw [o_mz (by omega) (by omega),show (r++[v]).getD d.length 0=v by rw [←hr];simp] at hget2
   refine G0 ?_;try with_reducible exact tt
   refine AW.cond rfl (fun h=>?_) (fun h=>?_)
   ·simp at h
   refine AW.exit ?_
   (try (simp -implicitDefEqProofs;try simp (disch:=omega) only [w64,wu64]))
   have hol2:(uW (ovr ws k (r++[v]))).length=ws.length:=by rw [o_lp,o_mi (by omega)]
   have hsr2:=o_ms hsr hvl
   generalize hr2:r++[v]=r2 at *
   have hrw:wval r<18446744073709551616^d.length:=by rw [←hr];exact o_ig hsr
   have hrw2:wval r2=wval r+18446744073709551616^d.length*v:=by rw [←hr2,o_mt,hr]
   by_cases hv0:v=0
   ·subst hv0
    have hnv1:nv=1:=by
     rcases (by omega:nv=0∨nv=1) with rfl | h
     ·exfalso
      rw [Nat.mul_zero,Nat.add_zero] at hsum
      rw [Nat.mul_zero,Nat.add_zero] at hrw2
      have:=(hn2 (by omega)).2
      omega
     ·exact h
    subst hnv1
    rw [Nat.mul_one] at hsum
    obtain ⟨k1,k2,k3,-⟩:=hn1 (by omega)
    simp at hset hget2 wv
    refine G1 (fs hol (fs hget (fs hkj (fs wv (fs hset (fs hget2 hol2)))))) ?_;try with_reducible exact tt
    refine AW.cond rfl (fun h=>?_) (fun h=>?_)
    ·simp at h
    repeat (first | refine AW.seq ?_ | refine AW.block ?_ | (refine AW.reg mix ?_;simp -implicitDefEqProofs;try simp (disch:=omega) only [w64,wu64]) | (refine need.of (by first | omega | kernel_rfl) ?_) | (refine AW.fin ?_;try simp -implicitDefEqProofs))
    (try (simp -implicitDefEqProofs;try simp (disch:=omega) only [w64,wu64]))
    repeat (first | refine AW.seq ?_ | refine AW.block ?_ | (refine AW.reg mix ?_;simp -implicitDefEqProofs;try simp (disch:=omega) only [w64,wu64]) | (refine need.of (by first | omega | kernel_rfl) ?_) | (refine AW.fin ?_;try simp -implicitDefEqProofs))
    refine ⟨0,g-1,r2,⟨by omega,by omega,by omega,hrv,hsr2,?_⟩,by omega,by simp,?_⟩
    ·rw [Nat.mul_zero,Nat.add_zero,←k1];omega
    ·exact ⟨Subs.refl _,o_ls _ _⟩
   ·have hnv0:nv=0:=by omega
    subst hnv0
    rw [Nat.mul_zero,Nat.add_zero] at hsum
    obtain ⟨k1,k2⟩:=hn2 (by omega)
    refine G1 (fs hol (fs hget (fs hkj (fs wv (fs hset (fs hget2 (fs hol2 hv0))))))) ?_;try with_reducible exact tt
    refine AW.cond rfl (fun h=>?_) (fun h=>?_)
    rotate_left
    ·simp [hv0] at h
    repeat (first | refine AW.seq ?_ | refine AW.block ?_ | (refine AW.reg mix ?_;simp -implicitDefEqProofs;try simp (disch:=omega) only [w64,wu64]) | (refine need.of (by first | omega | kernel_rfl) ?_) | (refine AW.fin ?_;try simp -implicitDefEqProofs))
    (try (simp -implicitDefEqProofs;try simp (disch:=omega) only [w64,wu64]))
    repeat (first | refine AW.seq ?_ | refine AW.block ?_ | (refine AW.reg mix ?_;simp -implicitDefEqProofs;try simp (disch:=omega) only [w64,wu64]) | (refine need.of (by first | omega | kernel_rfl) ?_) | (refine AW.fin ?_;try simp -implicitDefEqProofs))
    refine ⟨1,g-1,r2,⟨by omega,by omega,?_,hrv,hsr2,?_⟩,by omega,by simp,?_⟩
    ·exact Nat.div_le_of_le_mul (by rw [Nat.mul_comm];omega)
    ·omega
    ·exact ⟨Subs.refl _,o_ls _ _⟩
end
section
open Go.RowKit
set_option maxHeartbeats 1000000 in
theorem o_nh (A:List Nat) (k:Nat) (hk:k<64) (hs:small A) (hn:A.length≤1000000):Eqn Tryz.prog o_ft [.d (W A),.d (.int .i64 k)] [] (.own 0 1 (A.length+1)) [⟨105,uW (movedL k 0 A)⟩]:=by
 refine Eqn.gen [0] o_fv (by simp) (by simp) (by rfl) (by decide) (by simp) (by simp [o_ls]) ?_
 refine cc (c':=?z36) ?_ ?_
 case refine_1=>cbv<;>exact rfl
 try simp only [W]
 refine G0 ?_;try with_reducible exact tt
 rw [show List.replicate (A.length+1) (V.d (.int .u64 0))=cellM k A 0 by rw [cellM,o_k8];simp [U]]
 have hlow:∀i,V.lowl 1 (cellM k A i)=true:=fun i=>o_kc 1 _
 refine AW.loopT (α:=Nat) 1 (fun i=>[(14,.d (.int .i64 (i:Int)))]) (fun i=>[(0,⟨105,cellM k A i⟩)]) (fun i=>i≤A.length) (fun i=>A.length-i) 0 ?_ ?_ (Nat.zero_le _) ?_ ?_ ?_
 ·simp
 ·simp
 ·simp
 ·simp [hlow]
 rintro i hi
 simp
 by_cases h:i=A.length
 ·subst h
  refine G0 ?_;try with_reducible exact tt
  refine AW.cond rfl (fun h=>?_) (fun h=>?_)
  ·simp at h
  refine AW.exit ?_
  (try (simp -implicitDefEqProofs;try simp (disch:=omega) only [w64,wu64]))
  rw [cellM,o_k9]
  repeat (first | refine AW.seq ?_ | refine AW.block ?_ | (refine AW.reg mix ?_;simp -implicitDefEqProofs [uW];try simp (disch:=omega) only [w64,wu64]) | (refine need.of (by first | omega | kernel_rfl) ?_) | (refine AW.fin ?_;try simp -implicitDefEqProofs [uW]))
  rw [show U (movedL k 0 A)=uW (movedL k 0 A) from rfl,o_nc]
  exact Subs.refl _
 ·have hi':i<A.length:=by omega
  have hp:(i:Int)<A.length:=by omega
  obtain ⟨c,y,u,hl,hq,hor,hw,hd,hset⟩:∃c z u:Nat,(cellM k A i).length=A.length+1∧(cellM k A i)[i]?=some (.d (.int .u64 c))∧bits BinOp.or IntKind.u64 (c:Int) (IntKind.u64.wrap ((A[i]:Int)*2^k))=(z:Int) ∧
    True∧(A[i]:Int)/2^(64-k)=(u:Int)∧((cellM k A i).set i (.d (.int .u64 z))).set (i+1) (.d (.int .u64 u))=cellM k A (i+1):=by
   have hl:=o_k7 k A i hi
   have hc:=o_iu (k:=k) (l:=A.take i) (c:=0) (hs.take i) (Nat.two_pow_pos k)
   have hset:=o_kb k A i hi'
   rw [←o_jj hi'] at hset
   refine ⟨movedC k 0 (A.take i),A[i]*2^k%18446744073709551616+movedC k 0 (A.take i),A[i]*2^k/18446744073709551616,by simp [cellM,U,hl],?_,?_,trivial,?_,?_⟩
   ·have:=o_ka k A i hi'
    rw [List.getD,List.getElem?_eq_getElem (by omega)] at this
    rw [cellM,U,List.getElem?_map,List.getElem?_eq_getElem (by omega)]
    simp at this
    simp [this]
   ·rw [show IntKind.u64.wrap ((A[i]:Int)*2^k)=((A[i]*2^k%18446744073709551616:Nat):Int) by rw [IntKind.wrap_u64,Int.natCast_emod,Int.natCast_mul,Int.natCast_pow];rfl]
    rw [bits_or_u64_nat _ _ (Nat.lt_of_lt_of_le hc (by rw [show (18446744073709551616:Nat)=2^64 by rfl];exact Nat.pow_le_pow_right (by decide) (by omega))) (Nat.mod_lt _ (by decide)),o_iv hk hc]
   ·rw [o_iw (by omega),Int.natCast_ediv,Int.natCast_pow];rfl
   ·rw [cellM,cellM,←hset,U,U,List.map_set,List.map_set]
  have hn:((64:Int)-k).toNat=64-k:=by omega
  have e1:IntKind.i64.wrap ((i:Int)+1)=(i:Int)+1:=w64 (by omega) (by omega)
  have e2:IntKind.i64.wrap ((64:Int)-k)=(64:Int)-k:=w64 (by omega) (by omega)
  generalize cellM k A i=cm at hl hq hset
  refine G1 (fs hi' hp) ?_;try with_reducible exact tt
  refine AW.cond rfl (fun h=>?_) (fun h=>?_)
  ·clear h
   refine G1 (fs hi' (fs hp (fs hl (fs hq (fs hor (fs e1 (fs e2 (fs hn (fs hd hset))))))))) ?_;try with_reducible exact tt
   exact ⟨i+1,by omega,by omega,by simp [wk],by simp [wkH,hlow]⟩
  ·simp at h

theorem o_ni (n s:Nat) (ds:List D) (ws:List Nat):V.frzs n s ds (uW ws)=uW ws:=by
 rw [o_59,uW,U,List.map_map];rfl
theorem uW_d (ws:List Nat):uW ws=(ws.map fun x:Nat=>D.int .u64 x).map V.d:=by rw [List.map_map];rfl

set_option maxHeartbeats 4000000 in
theorem o_nj (a b:Nat) (hb:18446744073709551616≤b) (hab:b≤a) (ha:size a≤900000):Eqn Tryz.prog o_fb [.d (.agg [natW a]),.d (.agg [natW b])] [] (.tup [.d (.agg [natW (a/b)]),.d (.agg [natW (a%b)]),.d (.int .i64 0)]) []:=by
 refine Eqn.pure o_fd Plain.ok ?_
 have hba:=o_k5 hab
 unfold size at ha hba
 have hsA:=o_jc a
 have hsB:=o_jc b
 have htB:=o_jd b
 have hvA:=o_jb a
 have hvB:=o_jb b
 have hB2:2≤(words b).length:=by
  rcases Nat.lt_or_ge (words b).length 2 with h | h
  ·exfalso
   have:=o_ig hsB
   rw [hvB] at this
   have h2:18446744073709551616^(words b).length≤18446744073709551616^1:=Nat.pow_le_pow_right (by decide) (by omega)
   omega
  ·exact h
 refine cc (c':=?z37) ?_ ?_
 case refine_1=>cbv<;>exact rfl
 try simp only [natW,W]
 generalize words a=A at *
 generalize words b=Bw at *
 obtain ⟨n,hn⟩:∃n,Bw.length=n+1:=⟨Bw.length-1,by omega⟩
 have htop:=htB n hn
 have htl:=hsB.getD n
 have hget:Bw[n]'(by omega)=Bw.getD n 0:=o_jj (by omega)
 have hlead:=o_l7 (Bw.getD n 0) htl
 have e1:IntKind.i64.wrap ((Bw.length:Int)-1)=(n:Int):=by rw [w64 (by omega) (by omega)];omega
 have hnB:n<Bw.length:=by omega
 have hnB':(n:Int)<Bw.length:=by omega
 generalize Bw.getD n 0=top at *
 obtain ⟨s,hs⟩:∃s,s=64-bitsN top:=⟨_,rfl⟩
 rw [←hs] at hlead
 have hs64:s<64:=by have:=(o_kq (n:=top) (by omega)).2;omega
 have hmB:=o_kd Bw s hs64 hsB (by omega)
 have hmA:=o_nh A s hs64 hsA (by omega)
 simp only [W,o_im] at hmB
 refine G1 (fs e1 (fs hnB (fs hnB' hget))) ?_;try with_reducible exact tt
 refine CallS.pu (hlead) (R1 (fs e1 (fs hnB (fs hnB' hget))) ?_);try with_reducible exact tt
 refine CallS.pu (hmB) (R1 (fs e1 (fs hnB (fs hnB' hget))) ?_);try with_reducible exact tt
 have hlm:(A.length:Int)+1-Bw.length=((A.length-n:Nat):Int):=by omega
 have hlm2:IntKind.i64.wrap ((A.length:Int)+1-Bw.length)=((A.length-n:Nat):Int):=by rw [w64 (by omega) (by omega),hlm]
 have hlm3:IntKind.i64.wrap (((A.length-n:Nat):Int)-1)=((A.length-n:Nat):Int)-1:=w64 (by omega) (by omega)
 refine CallS.nX (hmA) (hO':=(o_nd _)) (R1 (fs e1 (fs hnB (fs hnB' (fs hget (fs hlm2 hlm3))))) ?_);try with_reducible exact tt
 have hnA:n+1≤A.length:=by omega
 have hbn:18446744073709551616^n≤wval Bw:=by
  have h1:=o_n2 (d:=Bw) (n:=n) hnB
  rw [o_jj hnB] at hget
  rw [hget] at h1
  have:1*18446744073709551616^n≤top*18446744073709551616^n:=Nat.mul_le_mul_right _ (by omega)
  omega
 have hD2:wval Bw*2^s<18446744073709551616^Bw.length:=by
  have h1:=o_iz Bw n
  rw [List.take_of_length_le (by omega)] at h1
  rw [o_jj hnB] at hget
  rw [hget] at h1
  have h2:=o_j8 hsB n
  have h3:top<2^bitsN top:=o_kn top
  have h4:wval Bw<2^bitsN top*18446744073709551616^n:=by
   have:(top+1)*18446744073709551616^n≤2^bitsN top*18446744073709551616^n:=Nat.mul_le_mul_right _ h3
   rw [Nat.add_mul,Nat.one_mul,Nat.mul_comm top] at this
   omega
  have h5:wval Bw*2^s<2^bitsN top*18446744073709551616^n*2^s:=Nat.mul_lt_mul_of_pos_right h4 (Nat.two_pow_pos s)
  have h6:2^bitsN top*18446744073709551616^n*2^s=18446744073709551616^Bw.length:=by
   have hb64:bitsN top≤64:=o_ko htl
   rw [Nat.mul_right_comm,←Nat.pow_add,show bitsN top+s=64 by omega,hn,Nat.pow_succ,Nat.mul_comm]
   rfl
  omega
 have hDv:=o_nb hD2
 have hsd:small ((movedL s 0 Bw).take Bw.length):=(o_io hs64 hsB (Nat.two_pow_pos s)).take _
 have hdl:((movedL s 0 Bw).take Bw.length).length=n+1:=by rw [List.length_take,o_im];omega
 have hU0:=o_in s A 0
 have hsU:small (movedL s 0 A):=o_io hs64 hsA (Nat.two_pow_pos s)
 have hlU:=o_im s A 0
 rw [Nat.add_zero] at hU0
 have hp2:=Nat.two_pow_pos s
 have hD0:18446744073709551616^n*2^s≤wval Bw*2^s:=Nat.mul_le_mul_right _ hbn
 have hDpos:0<wval Bw*2^s:=Nat.lt_of_lt_of_le (Nat.mul_pos (Nat.pow_pos (by decide)) hp2) hD0
 simp only [←List.map_take]
 generalize hdd:(movedL s 0 Bw).take Bw.length=d at *
 generalize hUU:movedL s 0 A=u0 at *
 have hdtop:d.getD (d.length-1) 0≠0:=by
  intro h0
  have h1:=o_iz d n
  have he:d.take (n+1)=d:=List.take_of_length_le (by omega)
  rw [he] at h1
  rw [hdl,Nat.add_sub_cancel] at h0
  rw [h0,Nat.mul_zero,Nat.add_zero] at h1
  have h2:=o_j8 hsd n
  have h3:18446744073709551616^n*1≤18446744073709551616^n*2^s:=Nat.mul_le_mul_left _ hp2
  omega
 generalize hm:A.length-n=m at *
 have hstart:wval ((u0.drop m).take (n+1))<wval d:=by
  have h1:=o_n5 (ws:=u0) m (n+1) (by omega)
  rw [List.take_of_length_le (by omega),hU0] at h1
  have h2:=o_ig hsA
  have h3:wval A*2^s<18446744073709551616^A.length*2^s:=Nat.mul_lt_mul_of_pos_right h2 hp2
  rw [hDv]
  refine Nat.lt_of_lt_of_le ?_ hD0
  have h4:18446744073709551616^A.length=18446744073709551616^m*18446744073709551616^n:=by rw [←Nat.pow_add];congr 1;omega
  rw [h4,Nat.mul_assoc] at h3
  have h5:18446744073709551616^m*wval ((u0.drop m).take (n+1))<18446744073709551616^m*(18446744073709551616^n*2^s):=by omega
  exact Nat.lt_of_mul_lt_mul_left h5
 have hdlt:wval d<18446744073709551616^(n+1):=by rw [←hdl];exact o_ig hsd
 have htkall:u0.take (m+(n+1))=u0:=List.take_of_length_le (by omega)
 have hdB:d.length=Bw.length:=by omega
 rw [show List.replicate m (V.d (.int .u64 0))=uW (List.replicate m 0++[]) by simp [uW,U]]
 refine AW.loopT (α:=Nat×List Nat×List Nat) 6 (fun s=>[(12,.d (.int .i64 ((s.1:Int)-1)))]) (fun s=>[(4,⟨105,uW s.2.1⟩),(5,⟨105,uW (List.replicate s.1 0++s.2.2)⟩)]) (fun s=>s.1≤m∧s.2.1.length=A.length+1∧small s.2.1∧s.2.2.length=m-s.1∧small s.2.2∧wval u0=wval (s.2.1.take (s.1+(n+1)))+wval d*(18446744073709551616^s.1*wval s.2.2)∧wval ((s.2.1.drop s.1).take (n+1))<wval d) (fun s=>s.1) (m,u0,[]) ?_ ?_ ⟨Nat.le_refl _,hlU,hsU,by simp,o_mu,by rw [htkall];simp [wval],hstart⟩ ?_ ?_ ?_
 ·simp
 ·simp
 ·simp
 ·simp [o_ls]
 clear hstart hsU hlU
 rintro ⟨kk,ws,q⟩ ⟨hkm,hwl,hws,hql,hsq,hv,hlt⟩
 simp only at hkm hwl hws hql hsq hv hlt
 simp
 cases kk with
 | zero =>
  refine G0 ?_;try with_reducible exact tt
  refine AW.cond rfl (fun h=>?_) (fun h=>?_)
  ·simp at h
  refine AW.exit ?_
  (try (simp -implicitDefEqProofs;try simp (disch:=omega) only [w64,wu64]))
  rw [Nat.zero_add,Nat.pow_zero,Nat.one_mul] at hv
  rw [List.drop_zero] at hlt
  rw [Nat.sub_zero] at hql
  have hdp:0<wval d:=by omega
  have hqv:wval q=wval u0/wval d:=by rw [hv,Nat.add_mul_div_left _ _ hdp,Nat.div_eq_of_lt hlt,Nat.zero_add]
  have hrv:wval (ws.take (n+1))=wval u0%wval d:=by rw [hv,Nat.add_mul_mod_self_left,Nat.mod_eq_of_lt hlt]
  obtain ⟨k1,k2⟩:=o_kx (n:=wval A) (y:=wval Bw) (s:=s)
  rw [hU0,hDv] at hqv hrv
  rw [k1] at hqv
  have ht1:=o_jk q hsq (by omega)
  have ht2:=o_jk (ws.take (n+1)) (hws.take _) (by rw [List.length_take];omega)
  have hl2:(ws.take (n+1)).length=n+1:=by rw [List.length_take];omega
  have hsz:size (wval (ws.take (n+1)))≤1000000:=Nat.le_trans (o_ix (o_jd _) (m:=n+1) (by rw [o_jb];have:=o_ig (hws.take (n+1));rw [hl2] at this;exact this)) (by omega)
  have ht3:=o_lh (wval (ws.take (n+1))) s hsz (by omega)
  rw [hrv,k2,←hrv] at ht3
  rw [hqv] at ht1
  simp only [natW,W,hql,hl2] at ht1 ht2 ht3
  refine AW.freeze 4 1 ⟨105,uW ws⟩ (ws.map fun x:Nat=>D.int .u64 x) (by rfl) (uW_d ws) ?_
  simp [o_ni]
  refine AW.freeze 5 1 ⟨105,uW q⟩ (q.map fun x:Nat=>D.int .u64 x) (by rfl) (uW_d q) ?_
  have hqt:q.take m=q:=List.take_of_length_le (by omega)
  have hwt:ws.take (A.length+1)=ws:=List.take_of_length_le (by omega)
  have hnAl:(Bw.length:Int)≤(A.length:Int)+1:=by omega
  simp [o_ni,←List.map_take,hqt,hwt]
  refine G1 hnAl ?_;try with_reducible exact tt
  refine CallS.pu (ht1) (R1 hnAl ?_);try with_reducible exact tt
  rw [←List.map_take,hn]
  refine CallS.pu (ht2) (R0 ?_);try with_reducible exact tt
  refine CallS.pu (ht3) (R0 ?_);try with_reducible exact tt
  rw [hvA,hvB]
  exact Sub1.refl _
 | succ k =>
  have hg0:(0:Int)≤k:=by omega
  refine G1 hg0 ?_;try with_reducible exact tt
  refine AW.cond rfl (fun h=>?_) (fun h=>?_)
  rotate_left
  ·simp at h
  have w1:IntKind.i64.wrap ((k:Int)+Bw.length)=(k:Int)+Bw.length:=w64 (by omega) (by omega)
  have w2:IntKind.i64.wrap ((k:Int)+Bw.length+1)=(k:Int)+Bw.length+1:=w64 (by omega) (by omega)
  have w3:((k:Int)+Bw.length+1).toNat-k=Bw.length+1:=by omega
  have w4:IntKind.i64.wrap ((k:Int)-1)=(k:Int)-1:=w64 (by omega) (by omega)
  have hc1:(k:Int)≤(k:Int)+Bw.length+1:=by omega
  have hc2:(k:Int)+Bw.length+1≤(A.length:Int)+1:=by omega
  have hseg:=o_n8 (ws:=ws) (k:=k) (m:=n+1) (by omega)
  have hxk:=hws.getD k
  have hS:wval ((ws.drop k).take (d.length+1))<wval d*18446744073709551616:=by
   rw [hdl,hseg];omega
  have hdig:=o_ng ws d k hws hsd (by omega) (by omega) (by omega) hdtop hS
  simp only [W] at hdig
  rw [hdB] at hdig hS
  obtain ⟨S,hSd⟩:∃S,S=wval ((ws.drop k).take (Bw.length+1)):=⟨_,rfl⟩
  have hvs:=o_n5 (ws:=ws) k (Bw.length+1) (by omega)
  rw [←hSd] at hdig hS hvs
  rw [show k+1+(n+1)=k+(Bw.length+1) by omega] at hv
  have hround:=o_n4 (Bk:=18446744073709551616^k) (S:=S) (Q:=wval q) (D:=wval d) (W1:=wval (ws.take k)) (U0:=wval u0) (BQ:=18446744073709551616^(k+1)*wval q) (by rw [hv,←hvs]) (by rw [Nat.pow_succ])
  have hdp:0<wval d:=by omega
  have hmodl:S%wval d<wval d:=Nat.mod_lt _ hdp
  have hlow:=o_n9 (ws:=ws) (k:=k) (n:=Bw.length) (x:=S%wval d) (by omega) (by rw [hn];exact Nat.lt_trans hmodl hdlt)
  have hwn:=o_md (Bw.length+1) (S%wval d)
  have hwlen:(ovr ws k (wordsN (Bw.length+1) (S%wval d))).length=ws.length:=o_mi (by omega)
  have hsm:=o_mj (k:=k) hws (o_me (Bw.length+1) (S%wval d))
  have hseg2:=o_n5 (ws:=ovr ws k (wordsN (Bw.length+1) (S%wval d))) k Bw.length (by omega)
  rw [o_n7 (by omega),hlow] at hseg2
  have hqd:S/wval d<18446744073709551616:=by rw [Nat.div_lt_iff_lt_mul hdp,Nat.mul_comm];exact hS
  have hset:(uW (List.replicate (k+1) 0++q)).set k (.d (.int .u64 (S/wval d:Nat)))=uW (List.replicate k 0++(S/wval d)::q):=by rw [o_lr,o_na]
  have hol:(uW (List.replicate (k+1) 0++q)).length=m:=by rw [o_lp];simp;omega
  generalize ovr ws k (wordsN (Bw.length+1) (S%wval d))=ws' at *
  generalize S/wval d=q0 at *
  refine G1 (fs w1 (fs w2 (fs w3 (fs hg0 (fs hc1 hc2))))) ?_;try with_reducible exact tt
  refine CallS.o1 4 (hdig) (hO:=o_nd _) (hO':=(o_nd _)) (R1 (fs hol (fs hset w4)) ?_);try with_reducible exact tt
  refine ⟨k,ws',q0::q,⟨by omega,by omega,hsm,by simp [hql];omega,fun y hy=>?_,?_,?_⟩,by omega,by simp,⟨Subs.refl _,o_ls _ _⟩,Subs.refl _,o_ls _ _⟩
  ·rcases List.mem_cons.1 hy with rfl | hy
   ·exact hqd
   ·exact hsq y hy
  ·rw [←hn,hseg2];exact hround
  ·rw [←hn,hlow];exact hmodl
end
section
open Go.RowKit
theorem o_nk (a b:Nat) (ha:size a≤900000) (h0:0<b) (hbs:size b≤900000):Eqn Tryz.prog o_e2 [.d (.agg [natW a]),.d (.agg [natW b])] [] (.tup [.d (.agg [natW (a/b)]),.d (.agg [natW (a%b)]),.d (.int .i64 0)]) []:=by
 by_cases hsm:b<18446744073709551616∨a<b
 ·exact o_m8 a b (by omega) h0 hsm (by omega)
 ·have hb1:18446744073709551616≤b:=by omega
  have hab:b≤a:=by omega
  refine Eqn.pure o_e4 (o_k1 _ _ _) ?_
  have hlong:=o_nj a b hb1 hab ha
  have hz:(b==0)=false:=by simp;omega
  have hsz:2≤(words b).length:=by
   rcases Nat.lt_or_ge (words b).length 2 with h | h
   ·exfalso
    have:=o_ig (o_jc b)
    rw [o_jb] at this
    have h2:18446744073709551616^(words b).length≤18446744073709551616^1:=Nat.pow_le_pow_right (by decide) (by omega)
    omega
   ·exact h
  obtain ⟨bn,bl,e',hbn⟩:∃bn bl,natW b = .sl bn bl∧bn≠1:=⟨_,_,rfl,by omega⟩
  have hbn':¬(bn:Int)=1:=by omega
  have hcz:¬cmpZ a b<0:=by rw [o_ki];omega
  refine cc (c':=?z38) ?_ ?_
  case refine_1=>cbv<;>exact rfl
  refine G0 ?_;try with_reducible exact tt
  refine CallS.pu (o_jm b) (R0 ?_);try with_reducible exact tt
  refine AW.cond rfl (fun h=>?_) (fun h=>?_)
  ·simp [hz] at h
  refine G0 ?_;try with_reducible exact tt
  refine CallS.pu (o_jo a b (by omega) (by omega)) (R1 hcz ?_);try with_reducible exact tt
  refine AW.cond rfl (fun h=>?_) (fun h=>?_)
  ·simp [hcz] at h
  rw [e'] at hlong
  refine G1 (fs e' (fs hbn hbn')) ?_;try with_reducible exact tt
  refine AW.cond rfl (fun h=>?_) (fun h=>?_)
  ·simp [hbn,hbn'] at h
  ·refine G0 ?_;try with_reducible exact tt
   refine CallS.pu (hlong) (R0 ?_);try with_reducible exact tt

theorem o_nl (a b:Nat) (ha:size a≤900000) (hb:size b≤900000):Eqn Tryz.prog o_dw [.d (.agg [natW a]),.d (.agg [natW b])] [] (.d (.agg [natW (Nat.gcd a b)])) []:=by
 refine Eqn.pure o_dy (o_5e _) ?_
 refine cc (c':=?z39) ?_ ?_
 case refine_1=>cbv<;>exact rfl
 refine G0 ?_;try with_reducible exact tt
 refine AW.loopT (α:=Nat×Nat) 3 (fun _=>[]) (fun p=>[(0,⟨42,[.d (natW p.1)]⟩),(1,⟨42,[.d (natW p.2)]⟩)]) (fun p=>size p.1≤900000∧size p.2≤900000∧Nat.gcd p.1 p.2=Nat.gcd a b) (fun p=>p.2) (a,b) ?_ ?_ ⟨ha,hb,rfl⟩ ?_ ?_ ?_
 ·simp
 ·simp
 ·simp
 ·simp
 rintro ⟨x,y⟩ ⟨hx,hy,hg⟩
 simp only at hx hy hg
 simp
 refine G0 ?_;try with_reducible exact tt
 refine CallS.pu (o_jm y) (R0 ?_);try with_reducible exact tt
 by_cases h0:y=0
 ·subst h0
  rw [Nat.gcd_zero_right] at hg
  subst hg
  refine AW.cond rfl (fun h=>?_) (fun h=>?_)
  ·simp at h
  refine AW.exit ?_
  (try (simp -implicitDefEqProofs;try simp (disch:=omega) only [w64,wu64]))
  refine G0 ?_;try with_reducible exact tt
  refine CallS.pu (o_jl (words (Nat.gcd a b)) (o_jc _) (by unfold size at hx;omega)) (R0 ?_);try with_reducible exact tt
  refine Sub1.of ?_
  rw [o_jb]
 ·have hy0:0<y:=by omega
  refine AW.cond rfl (fun h=>?_) (fun h=>?_)
  ·refine G0 ?_;try with_reducible exact tt
   refine CallS.pu (o_nk x y hx hy0 hy) (R0 ?_);try with_reducible exact tt
   refine ⟨y,x%y,⟨hy,Nat.le_trans (o_k5 (Nat.mod_le x y)) hx,?_⟩,Nat.mod_lt _ hy0,Subs.refl _,?_⟩
   ·rw [←hg,Nat.gcd_comm x y,Nat.gcd_rec y x,Nat.gcd_comm]
   ·exact Subs.refl _
  ·simp at h
   exact absurd h h0
end
section
theorem o_nm (z:Int) (d:Nat) (hd:0<d):(mkRat z d).num.natAbs=z.natAbs/Nat.gcd z.natAbs d∧(mkRat z d).den=d/Nat.gcd z.natAbs d∧((mkRat z d).num<0↔z<0):=by
 have hg:0<Nat.gcd z.natAbs d:=Nat.gcd_pos_of_pos_right _ hd
 rw [Rat.mkRat_def,dif_neg (by omega),Rat.normalize_eq]
 have hdv:((Nat.gcd z.natAbs d:Nat):Int)∣z:=Int.ofNat_dvd_left.2 (Nat.gcd_dvd_left _ _)
 refine ⟨?_,rfl,?_⟩
 ·show (z/((Nat.gcd z.natAbs d:Nat):Int)).natAbs=_
  rw [Int.natAbs_ediv_of_dvd hdv,Int.natAbs_natCast]
 ·show z/((Nat.gcd z.natAbs d:Nat):Int)<0↔z<0
  obtain ⟨k,hk⟩:=hdv
  have hg':0<((Nat.gcd z.natAbs d:Nat):Int):=by omega
  generalize ((Nat.gcd z.natAbs d:Nat):Int)=g at *
  rw [hk,Int.mul_ediv_cancel_left _ (by omega)]
  constructor
  ·intro h;exact Int.mul_neg_of_pos_of_neg hg' h
  ·intro h
   rcases Int.lt_or_le k 0 with h1 | h1
   ·exact h1
   ·have:=Int.mul_nonneg (Int.le_of_lt hg') h1;omega
theorem o_nn (x y:Rat):x+y=mkRat (x.num*y.den+y.num*x.den) (x.den*y.den):=Rat.add_def' x y
theorem o_no (x y:Rat):x*y=mkRat (x.num*y.num) (x.den*y.den):=Rat.mul_def' x y
theorem o_np (x y:Rat):x<y↔x.num*y.den<y.num*x.den:=Rat.lt_iff x y
end
section
open Go.RowKit
def wD (z:Int):D:=.agg [natW z.natAbs,.bool (decide (z<0))]
def rD (q:Rat):D:=.agg [natW q.num.natAbs,.bool (decide (q.num<0)),natW (q.den-1)]

theorem o_nq (a b:Nat):size (a*b)≤size a+size b:=by
 refine o_ix (o_jd _) ?_
 rw [o_jb,Nat.pow_add]
 have ha:=o_ig (o_jc a)
 have hb:=o_ig (o_jc b)
 rw [o_jb] at ha hb
 unfold size
 exact Nat.mul_lt_mul'' ha hb
theorem o_nr (a b:Nat):size (a+b)≤max (size a) (size b)+1:=by
 refine o_ix (o_jd _) ?_
 rw [o_jb,Nat.pow_succ]
 have ha:=o_ig (o_jc a)
 have hb:=o_ig (o_jc b)
 rw [o_jb] at ha hb
 have h1:18446744073709551616^(words a).length≤18446744073709551616^max (size a) (size b):=Nat.pow_le_pow_right (by decide) (Nat.le_max_left _ _)
 have h2:18446744073709551616^(words b).length≤18446744073709551616^max (size a) (size b):=Nat.pow_le_pow_right (by decide) (Nat.le_max_right _ _)
 omega

theorem o_ns (m n:Nat) (hm:size m≤1000000) (hn:size n≤1000000) (hlt:m<n):Eqn Tryz.prog o_e5 [.d (.agg [natW m]),.d (.agg [natW n])] [] (.tup [.d (.agg [.nilsl]),.d (.int .i64 2)]) []:=by
 refine Eqn.pure o_e7 Plain.ok ?_
 have hc:=o_jo m n hm hn
 have hlt':cmpZ m n<0:=o_ki.2 hlt
 refine cc (c':=?z40) ?_ ?_
 case refine_1=>cbv<;>exact rfl
 refine G0 ?_;try with_reducible exact tt
 refine CallS.pu (hc) (R1 hlt' ?_);try with_reducible exact tt
 refine AW.cond rfl (fun h=>?_) (fun h=>?_)
 ·refine G0 ?_;try with_reducible exact tt
 ·simp [hlt'] at h

theorem o_nt (s:Bool) (a:Nat):Eqn Tryz.prog o_bw [.d (.bool s),.d (.agg [natW a])] [] (.d (.agg [natW a,.bool (s&&decide (a≠0))])) []:=by
 refine Eqn.pure o_by Plain.ok ?_
 have hz:=o_jm a
 refine cc (c':=?z41) ?_ ?_
 case refine_1=>cbv<;>exact rfl
 cases s with
 | true =>
  refine G0 ?_;try with_reducible exact tt
  refine CallS.pu (hz) (R0 ?_);try with_reducible exact tt
  refine Sub1.of ?_
  simp
  cases a<;>rfl
 | false =>
  refine G0 ?_;try with_reducible exact tt
theorem o_nu (s:Bool) (a:Nat) (z:Int) (hz:z=if s then -(a:Int) else a):Eqn Tryz.prog o_bw [.d (.bool s),.d (.agg [natW a])] [] (.d (wD z)) []:=by
 have h:=o_nt s a
 have e:D.agg [natW a,.bool (s&&decide (a≠0))]=wD z:=by
  subst hz
  unfold wD
  cases s with
  | true =>
   simp only [if_true,Int.natAbs_neg,Int.natAbs_natCast,Bool.true_and]
   congr 4
   rw [decide_eq_decide];omega
  | false =>
   simp only [Bool.false_and,Int.natAbs_natCast,Bool.false_eq_true,if_false]
   congr 4
 rw [e] at h
 exact h
theorem o_nv (z:Int):Eqn Tryz.prog o_dz [.d (wD z)] [] (.d (.agg [natW z.natAbs])) []:=o_lx _ _
theorem o_nw (z:Int):Eqn Tryz.prog o_e8 [.d (wD z)] [] (.d (.bool (decide (z<0)))) []:=o_ly _ _

theorem o_nx (x y:Int) (hx:size x.natAbs≤400000) (hy:size y.natAbs≤400000):Eqn Tryz.prog o_94 [.d (wD x),.d (wD y)] [] (.d (wD (x*y))) []:=by
 refine Eqn.pure o_96 (o_5e _) ?_
 have hm:=o_lu x.natAbs y.natAbs (by omega) (by omega)
 have hk:=fun s h=>o_nu s (x.natAbs*y.natAbs) (x*y) h
 refine cc (c':=?z42) ?_ ?_
 case refine_1=>cbv<;>exact rfl
 try simp only [wD] at hk ⊢
 refine G0 ?_;try with_reducible exact tt
 refine CallS.pu (hm) (R0 ?_);try with_reducible exact tt
 have e:x*y=if (decide (x<0) != decide (y<0))=true then -((x.natAbs*y.natAbs:Nat):Int) else ((x.natAbs*y.natAbs:Nat):Int):=by
  rw [Int.natCast_mul]
  by_cases h1:x<0<;>by_cases h2:y<0<;>simp only [h1,h2,decide_true,decide_false]
  ·rw [if_neg (by decide),Int.ofNat_natAbs_of_nonpos (by omega),Int.ofNat_natAbs_of_nonpos (by omega),Int.neg_mul_neg]
  ·rw [if_pos (by decide),Int.ofNat_natAbs_of_nonpos (by omega),Int.natAbs_of_nonneg (by omega),Int.neg_mul,Int.neg_neg]
  ·rw [if_pos (by decide),Int.ofNat_natAbs_of_nonpos (a:=y) (by omega),Int.natAbs_of_nonneg (by omega),Int.mul_neg,Int.neg_neg]
  ·rw [if_neg (by decide),Int.natAbs_of_nonneg (by omega),Int.natAbs_of_nonneg (by omega)]
 replace hk:=hk _ e
 refine CallS.pu (hk) (R0 ?_);try with_reducible exact tt

theorem o_ny (x:Int):Eqn Tryz.prog o_et [.d (wD x)] [] (.d (wD (-x))) []:=by
 refine Eqn.pure o_ev (o_5e _) ?_
 have hk:=o_nu (!decide (x<0)) x.natAbs (-x) (by
  by_cases h:x<0
  ·simp only [h,decide_true,Bool.not_true,Bool.false_eq_true,if_false];omega
  ·simp only [h,decide_false,Bool.not_false,if_true];omega)
 refine cc (c':=?z43) ?_ ?_
 case refine_1=>cbv<;>exact rfl
 try simp only [wD] at hk ⊢
 refine G0 ?_;try with_reducible exact tt
 refine CallS.pu (hk) (R0 ?_);try with_reducible exact tt

theorem o_nz (x y:Int) (hx:size x.natAbs≤400000) (hy:size y.natAbs≤400000):Eqn Tryz.prog o_bn [.d (wD x),.d (wD y)] [] (.d (wD (x+y))) []:=by
 refine Eqn.pure o_bp (o_5e _) ?_
 by_cases hs:decide (x<0)=decide (y<0)
 ·have ha:=o_k2 x.natAbs y.natAbs (by omega) (by omega)
  have hk:=o_nu (decide (x<0)) (x.natAbs+y.natAbs) (x+y) (by
   rw [decide_eq_decide] at hs
   by_cases h:x<0
   ·rw [if_pos (by simpa using h)];omega
   ·rw [if_neg (by simpa using h)];omega)
  refine cc (c':=?z44) ?_ ?_
  case refine_1=>cbv<;>exact rfl
  try simp only [wD] at hk ⊢
  generalize decide (x<0)=sx at *
  generalize decide (y<0)=sy at *
  subst hs
  refine G0 ?_;try with_reducible exact tt
  refine AW.cond rfl (fun h=>?_) (fun h=>?_)
  ·refine G0 ?_;try with_reducible exact tt
   refine CallS.pu (ha) (R0 ?_);try with_reducible exact tt
   refine CallS.pu (hk) (R0 ?_);try with_reducible exact tt
  ·simp at h
 ·have hs':¬(x<0↔y<0):=fun h=>hs (decide_eq_decide.2 h)
  by_cases hle:y.natAbs≤x.natAbs
  ·have ha:=o_k6 x.natAbs y.natAbs (by omega) hle
   have hk:=o_nu (decide (x<0)) (x.natAbs-y.natAbs) (x+y) (by
    by_cases h:x<0
    ·rw [if_pos (by simpa using h)];omega
    ·rw [if_neg (by simpa using h)];omega)
   refine cc (c':=?z45) ?_ ?_
   case refine_1=>cbv<;>exact rfl
   try simp only [wD] at hk ⊢
   generalize decide (x<0)=sx at *
   generalize decide (y<0)=sy at *
   have hs2:(sx==sy)=false:=by simpa using hs
   refine G1 (fs hs2 hs) ?_;try with_reducible exact tt
   refine AW.cond rfl (fun h=>?_) (fun h=>?_)
   ·simp [hs2,hs] at h
   ·refine G0 ?_;try with_reducible exact tt
    refine CallS.pu (ha) (R0 ?_);try with_reducible exact tt
    refine AW.cond rfl (fun h=>?_) (fun h=>?_)
    ·refine G0 ?_;try with_reducible exact tt
     refine CallS.pu (hk) (R0 ?_);try with_reducible exact tt
    ·simp at h
  ·have hb:=o_ns x.natAbs y.natAbs (by omega) (by omega) (by omega)
   have ha:=o_k6 y.natAbs x.natAbs (by omega) (by omega)
   have hk:=o_nu (decide (y<0)) (y.natAbs-x.natAbs) (x+y) (by
    by_cases h:y<0
    ·rw [if_pos (by simpa using h)];omega
    ·rw [if_neg (by simpa using h)];omega)
   refine cc (c':=?z46) ?_ ?_
   case refine_1=>cbv<;>exact rfl
   try simp only [wD] at hk ⊢
   generalize decide (x<0)=sx at *
   generalize decide (y<0)=sy at *
   have hs2:(sx==sy)=false:=by simpa using hs
   refine G1 (fs hs2 hs) ?_;try with_reducible exact tt
   refine AW.cond rfl (fun h=>?_) (fun h=>?_)
   ·simp [hs2,hs] at h
   ·refine G0 ?_;try with_reducible exact tt
    refine CallS.pu (hb) (R0 ?_);try with_reducible exact tt
    refine AW.cond rfl (fun h=>?_) (fun h=>?_)
    ·simp at h
    ·refine G0 ?_;try with_reducible exact tt
     refine CallS.pu (ha) (R0 ?_);try with_reducible exact tt
     refine CallS.pu (hk) (R0 ?_);try with_reducible exact tt

def cmpI (x y:Int):Int:=if x<y then -1 else if y<x then 1 else 0
theorem o_o0 (x y:Int) (hx:size x.natAbs≤900000) (hy:size y.natAbs≤900000):Eqn Tryz.prog o_91 [.d (wD x),.d (wD y)] [] (.d (.int .i64 (cmpI x y))) []:=by
 refine Eqn.pure o_93 (o_5e _) ?_
 have h1:=o_jo y.natAbs x.natAbs (by omega) (by omega)
 have h2:=o_jo x.natAbs y.natAbs (by omega) (by omega)
 refine cc (c':=?z47) ?_ ?_
 case refine_1=>cbv<;>exact rfl
 try simp only [wD]
 by_cases hx0:x<0<;>by_cases hy0:y<0
 ·have e:cmpI x y=cmpZ y.natAbs x.natAbs:=by
   unfold cmpI cmpZ
   split<;>split<;>first | omega | (split<;>omega)
  rw [←e] at h1
  simp only [hx0,hy0,decide_true,decide_false]
  refine G0 ?_;try with_reducible exact tt
  refine AW.cond rfl (fun h=>?_) (fun h=>?_)
  ·refine G0 ?_;try with_reducible exact tt
   refine CallS.pu (h1) (R0 ?_);try with_reducible exact tt
  ·simp at h
 ·have e:cmpI x y = -1:=by unfold cmpI;rw [if_pos (by omega)]
  rw [e]
  simp only [hx0,hy0,decide_true,decide_false]
  refine G0 ?_;try with_reducible exact tt
  refine AW.cond rfl (fun h=>?_) (fun h=>?_)
  ·simp at h
  refine G0 ?_;try with_reducible exact tt
  refine AW.cond rfl (fun h=>?_) (fun h=>?_)
  ·refine G0 ?_;try with_reducible exact tt
  ·simp at h
 ·have e:cmpI x y=1:=by unfold cmpI;rw [if_neg (by omega),if_pos (by omega)]
  rw [e]
  simp only [hx0,hy0,decide_true,decide_false]
  refine G0 ?_;try with_reducible exact tt
  refine AW.cond rfl (fun h=>?_) (fun h=>?_)
  ·simp at h
  refine G0 ?_;try with_reducible exact tt
  refine AW.cond rfl (fun h=>?_) (fun h=>?_)
  ·simp at h
  refine G0 ?_;try with_reducible exact tt
  refine AW.cond rfl (fun h=>?_) (fun h=>?_)
  ·refine G0 ?_;try with_reducible exact tt
  ·simp at h
 ·have e:cmpI x y=cmpZ x.natAbs y.natAbs:=by
   unfold cmpI cmpZ
   split<;>split<;>first | omega | (split<;>omega)
  rw [←e] at h2
  simp only [hx0,hy0,decide_true,decide_false]
  refine G0 ?_;try with_reducible exact tt
  refine AW.cond rfl (fun h=>?_) (fun h=>?_)
  ·simp at h
  refine G0 ?_;try with_reducible exact tt
  refine AW.cond rfl (fun h=>?_) (fun h=>?_)
  ·simp at h
  refine G0 ?_;try with_reducible exact tt
  refine AW.cond rfl (fun h=>?_) (fun h=>?_)
  ·simp at h
  refine G0 ?_;try with_reducible exact tt
  refine CallS.pu (h2) (R0 ?_);try with_reducible exact tt
end
section
open Go.RowKit
theorem o_o1 (z:Int) (d:Nat) (hd:0<d) (hz:size z.natAbs≤900000) (hds:size d≤900000):Eqn Tryz.prog o_bk [.d (wD z),.d (.agg [natW d])] [] (.d (rD (mkRat z d))) []:=by
 refine Eqn.pure o_bm (o_5e _) ?_
 obtain ⟨p1,p2,p3⟩:=o_nm z d hd
 have hg0:0<Nat.gcd z.natAbs d:=Nat.gcd_pos_of_pos_right _ hd
 have hgs:size (Nat.gcd z.natAbs d)≤900000:=Nat.le_trans (o_k5 (Nat.gcd_le_right _ hd)) hds
 have h1:=o_nl z.natAbs d hz hds
 have h2:=o_nk z.natAbs (Nat.gcd z.natAbs d) hz hg0 hgs
 have h3:=o_nk d (Nat.gcd z.natAbs d) hds hg0 hgs
 have hdp:0<d/Nat.gcd z.natAbs d:=Nat.div_pos (Nat.gcd_le_right _ hd) hg0
 have hdq:size (d/Nat.gcd z.natAbs d)≤900000:=Nat.le_trans (o_k5 (Nat.div_le_self _ _)) hds
 have h4:=o_k6 (d/Nat.gcd z.natAbs d) 1 (by omega) hdp
 have hab:=o_nv z
 have hng:=o_nw z
 have hk:=o_nt (decide (z<0)) (z.natAbs/Nat.gcd z.natAbs d)
 have hsg:(decide (z<0)&&decide (z.natAbs/Nat.gcd z.natAbs d≠0))=decide ((mkRat z d).num<0):=by
  rw [Bool.eq_iff_iff]
  simp only [Bool.and_eq_true,decide_eq_true_eq,p3]
  rw [←p1]
  constructor
  ·intro h;exact h.1
  ·intro h
   have:=p3.2 h
   exact ⟨h,by omega⟩
 rw [hsg,←p1] at hk
 rw [←p1] at h2
 rw [←p2] at h3 h4
 refine cc (c':=?z48) ?_ ?_
 case refine_1=>cbv<;>exact rfl
 try simp only [rD,wD] at hab hng ⊢
 refine G0 ?_;try with_reducible exact tt
 refine CallS.pu (hab) (R0 ?_);try with_reducible exact tt
 refine CallS.pu (h1) (R0 ?_);try with_reducible exact tt
 refine CallS.pu (hab) (R0 ?_);try with_reducible exact tt
 refine CallS.pu (h2) (R0 ?_);try with_reducible exact tt
 refine CallS.pu (h3) (R0 ?_);try with_reducible exact tt
 refine CallS.pf 8 1 ⟨105,_⟩ [.int .u64 (1:Nat)] (o_jl [1] (o_kh (by omega)) (by simp)) (by first | rfl | (simp;done)) (R0 ?_);try with_reducible exact tt
 refine CallS.pu (h4) (R0 ?_);try with_reducible exact tt
 refine CallS.pu (hng) (R0 ?_);try with_reducible exact tt
 refine CallS.pu (hk) (R0 ?_);try with_reducible exact tt

theorem o_o2 (q:Rat) (h:size q.den≤900000):Eqn Tryz.prog o_9g [.d (rD q)] [] (.d (.agg [natW q.den])) []:=by
 have hp:=q.den_pos
 have:=o_m0 q.num.natAbs (q.den-1) (decide (q.num<0)) (Nat.le_trans (o_k5 (Nat.sub_le _ _)) (by omega))
 rw [show q.den-1+1=q.den by omega] at this
 exact this
theorem o_o3 (q:Rat) (h:size q.den≤900000):Eqn Tryz.prog o_97 [.d (rD q)] [] (.d (wD q.den)) []:=by
 refine Eqn.pure o_99 (o_5e _) ?_
 have h1:=o_o2 q h
 have h2:=o_nu false q.den (q.den:Int) rfl
 refine cc (c':=?z49) ?_ ?_
 case refine_1=>cbv<;>exact rfl
 try simp only [rD,wD] at h1 h2 ⊢
 refine G0 ?_;try with_reducible exact tt
 refine CallS.pu (h1) (R0 ?_);try with_reducible exact tt
 refine CallS.pu (h2) (R0 ?_);try with_reducible exact tt

def RS (q:Rat) (N:Nat):Prop:=size q.num.natAbs≤N∧size q.den≤N
theorem RS.le {q:Rat} {N M:Nat} (h:RS q N) (hm:N≤M):RS q M:=⟨Nat.le_trans h.1 hm,Nat.le_trans h.2 hm⟩
theorem RS.mk' {z:Int} {d N:Nat} (hd:0<d) (h1:size z.natAbs≤N) (h2:size d≤N):RS (mkRat z d) N:=by
 obtain ⟨p1,p2,-⟩:=o_nm z d hd
 refine ⟨?_,?_⟩
 ·rw [p1];exact Nat.le_trans (o_k5 (Nat.div_le_self _ _)) h1
 ·rw [p2];exact Nat.le_trans (o_k5 (Nat.div_le_self _ _)) h2
theorem RS.mul {x y:Rat} {N M:Nat} (hx:RS x N) (hy:RS y M):RS (x*y) (N+M):=by
 rw [o_no]
 refine RS.mk' (Nat.mul_pos x.den_pos y.den_pos) ?_ ?_
 ·rw [Int.natAbs_mul];have:=o_nq x.num.natAbs y.num.natAbs;have:=hx.1;have:=hy.1;omega
 ·have:=o_nq x.den y.den;have:=hx.2;have:=hy.2;omega
theorem RS.add {x y:Rat} {N M:Nat} (hx:RS x N) (hy:RS y M):RS (x+y) (N+M+1):=by
 rw [o_nn]
 refine RS.mk' (Nat.mul_pos x.den_pos y.den_pos) ?_ ?_
 ·have h1:=o_k5 (Int.natAbs_add_le (x.num*y.den) (y.num*x.den))
  have h2:=o_nr (x.num*y.den).natAbs (y.num*x.den).natAbs
  rw [Int.natAbs_mul,Int.natAbs_mul,Int.natAbs_natCast,Int.natAbs_natCast] at *
  have h3:=o_nq x.num.natAbs y.den
  have h4:=o_nq y.num.natAbs x.den
  have:=hx.1;have:=hy.1;have:=hx.2;have:=hy.2
  omega
 ·have:=o_nq x.den y.den;have:=hx.2;have:=hy.2;omega
theorem RS.neg {x:Rat} {N:Nat} (hx:RS x N):RS (-x) N:=by
 refine ⟨?_,?_⟩
 ·rw [Rat.neg_num,Int.natAbs_neg];exact hx.1
 ·rw [Rat.neg_den];exact hx.2
theorem RS.sub {x y:Rat} {N M:Nat} (hx:RS x N) (hy:RS y M):RS (x-y) (N+M+1):=by
 rw [Rat.sub_eq_add_neg];exact hx.add hy.neg

theorem o_o4 (x y:Rat) (hx:RS x 100000) (hy:RS y 100000):Eqn Tryz.prog o_an [.d (rD x),.d (rD y)] [] (.d (rD (x*y))) []:=by
 refine Eqn.pure o_ap (o_5e _) ?_
 have h1:=o_nx x.num y.num (by have:=hx.1;omega) (by have:=hy.1;omega)
 have h2:=o_o2 x (by have:=hx.2;omega)
 have h3:=o_o2 y (by have:=hy.2;omega)
 have h4:=o_lu x.den y.den (by have:=hx.2;omega) (by have:=hy.2;omega)
 have h5:=o_o1 (x.num*y.num) (x.den*y.den) (Nat.mul_pos x.den_pos y.den_pos) (by rw [Int.natAbs_mul];have:=o_nq x.num.natAbs y.num.natAbs;have:=hx.1;have:=hy.1;omega) (by have:=o_nq x.den y.den;have:=hx.2;have:=hy.2;omega)
 rw [←o_no] at h5
 refine cc (c':=?z50) ?_ ?_
 case refine_1=>cbv<;>exact rfl
 try simp only [rD,wD] at h1 h2 h3 h5 ⊢
 refine G0 ?_;try with_reducible exact tt
 refine CallS.pu (h1) (R0 ?_);try with_reducible exact tt
 refine CallS.pu (h2) (R0 ?_);try with_reducible exact tt
 refine CallS.pu (h3) (R0 ?_);try with_reducible exact tt
 refine CallS.pu (h4) (R0 ?_);try with_reducible exact tt
 refine CallS.pu (h5) (R0 ?_);try with_reducible exact tt

theorem o_o5 (x y:Rat) (hx:RS x 100000) (hy:RS y 100000):Eqn Tryz.prog o_8y [.d (rD x),.d (rD y)] [] (.d (rD (x+y))) []:=by
 refine Eqn.pure o_90 (o_5e _) ?_
 have x1:=hx.1;have x2:=hx.2;have y1:=hy.1;have y2:=hy.2
 have s1:=o_nq x.num.natAbs y.den
 have s2:=o_nq y.num.natAbs x.den
 have e1:(x.num*(y.den:Int)).natAbs=x.num.natAbs*y.den:=by rw [Int.natAbs_mul,Int.natAbs_natCast]
 have e2:(y.num*(x.den:Int)).natAbs=y.num.natAbs*x.den:=by rw [Int.natAbs_mul,Int.natAbs_natCast]
 have h1:=o_nx x.num y.den (by omega) (by rw [Int.natAbs_natCast];omega)
 have h1':=o_nx y.num x.den (by omega) (by rw [Int.natAbs_natCast];omega)
 have h2:=o_o2 x (by omega)
 have h3:=o_o2 y (by omega)
 have h2':=o_o3 x (by omega)
 have h3':=o_o3 y (by omega)
 have h4:=o_lu x.den y.den (by omega) (by omega)
 have h6:=o_nz (x.num*y.den) (y.num*x.den) (by rw [e1];omega) (by rw [e2];omega)
 have h5:=o_o1 (x.num*y.den+y.num*x.den) (x.den*y.den) (Nat.mul_pos x.den_pos y.den_pos) (by
  have h1:=o_k5 (Int.natAbs_add_le (x.num*y.den) (y.num*x.den))
  have h2:=o_nr (x.num*y.den).natAbs (y.num*x.den).natAbs
  rw [e1,e2] at *
  omega) (by have:=o_nq x.den y.den;omega)
 rw [←o_nn] at h5
 refine cc (c':=?z51) ?_ ?_
 case refine_1=>cbv<;>exact rfl
 try simp only [rD] at h2 h3 h2' h3' h5 ⊢
 generalize hz1:x.num*(y.den:Int)=z1 at *
 generalize hz2:y.num*(x.den:Int)=z2 at *
 simp only [wD] at h1 h1' h2' h3' h5 h6
 refine G0 ?_;try with_reducible exact tt
 refine CallS.pu (h3') (R0 ?_);try with_reducible exact tt
 refine CallS.pu (h1) (R0 ?_);try with_reducible exact tt
 refine CallS.pu (h2') (R0 ?_);try with_reducible exact tt
 refine CallS.pu (h1') (R0 ?_);try with_reducible exact tt
 refine CallS.pu (h6) (R0 ?_);try with_reducible exact tt
 refine CallS.pu (h2) (R0 ?_);try with_reducible exact tt
 refine CallS.pu (h3) (R0 ?_);try with_reducible exact tt
 refine CallS.pu (h4) (R0 ?_);try with_reducible exact tt
 refine CallS.pu (h5) (R0 ?_);try with_reducible exact tt

theorem o_o6 (x y:Rat) (hx:RS x 100000) (hy:RS y 100000):Eqn Tryz.prog o_ck [.d (rD x),.d (rD y)] [] (.d (rD (x-y))) []:=by
 refine Eqn.pure o_cm (o_5e _) ?_
 have h1:=o_ny y.num
 have h2:=o_o5 x (-y) hx hy.neg
 rw [←Rat.sub_eq_add_neg] at h2
 refine cc (c':=?z52) ?_ ?_
 case refine_1=>cbv<;>exact rfl
 try simp only [rD,wD,Rat.neg_num,Rat.neg_den] at h1 h2 ⊢
 obtain ⟨w,hw⟩:∃w,D.bool (decide (-y.num<0))=w:=⟨_,rfl⟩
 obtain ⟨u,hu⟩:∃u,natW (-y.num).natAbs=u:=⟨_,rfl⟩
 rw [hu,hw] at h1 h2
 clear hu hw
 refine G0 ?_;try with_reducible exact tt
 refine CallS.pu (h1) (R0 ?_);try with_reducible exact tt
 refine CallS.pu (h2) (R0 ?_);try with_reducible exact tt

def cmpQ (x y:Rat):Int:=if x<y then -1 else if y<x then 1 else 0
theorem o_o7 (x y:Rat) (hx:RS x 100000) (hy:RS y 100000):Eqn Tryz.prog o_7j [.d (rD x),.d (rD y)] [] (.d (.int .i64 (cmpQ x y))) []:=by
 refine Eqn.pure o_7l (o_5e _) ?_
 have x1:=hx.1;have x2:=hx.2;have y1:=hy.1;have y2:=hy.2
 have s1:=o_nq x.num.natAbs y.den
 have s2:=o_nq y.num.natAbs x.den
 have e1:(x.num*(y.den:Int)).natAbs=x.num.natAbs*y.den:=by rw [Int.natAbs_mul,Int.natAbs_natCast]
 have e2:(y.num*(x.den:Int)).natAbs=y.num.natAbs*x.den:=by rw [Int.natAbs_mul,Int.natAbs_natCast]
 have h1:=o_nx x.num y.den (by omega) (by rw [Int.natAbs_natCast];omega)
 have h1':=o_nx y.num x.den (by omega) (by rw [Int.natAbs_natCast];omega)
 have h2':=o_o3 x (by omega)
 have h3':=o_o3 y (by omega)
 have h6:=o_o0 (x.num*y.den) (y.num*x.den) (by rw [e1];omega) (by rw [e2];omega)
 have e:cmpI (x.num*y.den) (y.num*x.den)=cmpQ x y:=by
  have a:=o_np x y
  have b:=o_np y x
  unfold cmpI cmpQ
  by_cases h:x<y
  ·rw [if_pos h,if_pos (a.1 h)]
  ·rw [if_neg h,if_neg (fun q=>h (a.2 q))]
   by_cases h2:y<x
   ·rw [if_pos h2,if_pos (b.1 h2)]
   ·rw [if_neg h2,if_neg (fun q=>h2 (b.2 q))]
 rw [e] at h6
 refine cc (c':=?z53) ?_ ?_
 case refine_1=>cbv<;>exact rfl
 try simp only [rD] at h2' h3' ⊢
 generalize hz1:x.num*(y.den:Int)=z1 at *
 generalize hz2:y.num*(x.den:Int)=z2 at *
 simp only [wD] at h1 h1' h2' h3' h6
 refine G0 ?_;try with_reducible exact tt
 refine CallS.pu (h3') (R0 ?_);try with_reducible exact tt
 refine CallS.pu (h1) (R0 ?_);try with_reducible exact tt
 refine CallS.pu (h2') (R0 ?_);try with_reducible exact tt
 refine CallS.pu (h1') (R0 ?_);try with_reducible exact tt
 refine CallS.pu (h6) (R0 ?_);try with_reducible exact tt

theorem o_o8 {I:Nat→Prop} {w:World} {v:Value} (h:D.rep I w .nilsl v):D.rep I w (natW 0) v:=by
 have:=Sub1.nil (⟨fun _=>none,I,w⟩:Mem) v (by rw [V.rep_d];exact h)
 rw [V.rep_d] at this
 exact this
theorem Sub1.rat0 {x y:D}:Sub1 (.d (.agg [x,y,.nilsl])) (.d (.agg [x,y,natW 0])):=fun m v k=>by
 rw [V.rep_d] at k ⊢
 unfold D.rep at k ⊢
 obtain ⟨vs,h1,h0,h2⟩:=k
 refine ⟨vs,h1,h0,?_⟩
 obtain ⟨a,r,rfl,ha,h2⟩:=D.reps_cons'.1 h2
 obtain ⟨b,r,rfl,hb,h2⟩:=D.reps_cons'.1 h2
 obtain ⟨c,r,rfl,hc,h2⟩:=D.reps_cons'.1 h2
 exact D.reps_cons.2 ⟨ha,D.reps_cons.2 ⟨hb,D.reps_cons.2 ⟨o_o8 hc,h2⟩⟩⟩
theorem o_o9 (n:Nat):Eqn Tryz.prog o_ez [.d (.agg [natW n])] [] (.d (rD (n:Rat))) []:=by
 refine Eqn.pure o_f1 (o_5e _) ?_
 have h1:=o_nu false n (n:Int) rfl
 have e:rD (n:Rat) = .agg [natW n,.bool false,natW 0]:=by
  unfold rD
  rw [Rat.num_natCast,Rat.den_natCast,Int.natAbs_natCast]
  congr 4
 rw [e]
 have e2:wD (n:Int) = .agg [natW n,.bool false]:=by
  unfold wD
  rw [Int.natAbs_natCast]
  congr 4
 rw [e2] at h1
 refine cc (c':=?z54) ?_ ?_
 case refine_1=>cbv<;>exact rfl
 refine G0 ?_;try with_reducible exact tt
 refine CallS.pu (h1) (R0 ?_);try with_reducible exact tt
 exact Sub1.rat0
end
end Go.Proofs.YtidfejfgmlakpaaGreatDoor.Am
