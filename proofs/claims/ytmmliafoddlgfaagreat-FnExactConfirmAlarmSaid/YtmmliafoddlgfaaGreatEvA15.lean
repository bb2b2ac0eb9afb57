import Derived.Test.YtmmliafoddlgfaaGreatEvA14
set_option linter.unusedSimpArgs false
set_option linter.unusedVariables false
set_option linter.unnecessarySimpa false
noncomputable section
set_option maxHeartbeats 4000000
set_option maxRecDepth 100000
namespace Go.Proofs
open Go.Ev
def C87:List AV→Option AV:=specP (X:=THeap × Unit) fun x=>spec_HasLeak x.1
theorem C87_eq {h_} {y} (h:spec_HasLeak h_=some y):C87 [av .shr h_]=some (Res.res y):=zai (x:=(h_,())) h
def g87:Cfg:={ P:=Tryz.prog,take:=[],keep:=[],gho:=[],ctx:=[(80,C80)] }
@[simp] theorem g87_s:type_of% (cfg_s (g:=g87) rfl):=cfg_s rfl
theorem w87 {h_} {y} (hp:spec_HasLeak h_=some y):∃ m,callo g87 0 87 [av .shr h_] mem0=some (Res.res y,m):=by
 refine st0 [.tmp 2] Tryz.func87 ?_
 unfold spec_HasLeak at hp
 obtain ⟨y_1,h_2,hp⟩:=zab hp
 have c_3:=C80_eq h_2
 simp at c_3
 cases hp
 simp [Tryz.f87,Goal,FnEnd,c_3]
theorem pc87:PC Tryz.prog 87 C87:=pc_of (g:=g87) (zaj _ g87_s.2.1 ⟨pc80,trivial⟩) (ent Tryz.func87) fun x y h=>w87 h

def C130:List AV→Option AV:=specP (X:=(List Int) × Int × Unit) fun x=>spec_l7New x.1 x.2.1
theorem C130_eq {order cell} {y} (h:spec_l7New order cell=some y):C130 [av .shr order,av .shr cell]=some (Res.res y):=zai (x:=(order,cell,())) h
def g130:Cfg:={ P:=Tryz.prog,take:=[],keep:=[],gho:=[],ctx:=[(151,C151)] }
@[simp] theorem g130_s:type_of% (cfg_s (g:=g130) rfl):=cfg_s rfl
theorem w130 {order cell} {y} (hp:spec_l7New order cell=some y):∃ m,callo g130 0 130 [av .shr order,av .shr cell] mem0=some (Res.res y,m):=by
 refine st0 [.tmp 4] Tryz.func130 ?_
 unfold spec_l7New at hp
 obtain ⟨y_1,h_2,hp⟩:=zab hp
 have c_3:=C151_eq h_2
 simp at c_3
 simp [Tryz.f130,c_3]
 rcases zad hp with ⟨h_4,hp⟩|⟨h_4,hp⟩
 ·try simp at h_4
  cases hp
  simp [Goal,FnEnd,h_4]
 ·try simp at h_4
  obtain ⟨e_5,h_6,hp⟩:=zab hp
  have b_8:=at_hi h_6
  try simp at b_8
  have c_9:=seg_at' h_6 0 1 (by decide) (ds:=[.sc (.int .i64 e_5)]) rfl
  try simp at c_9
  cases hp
  simp [Goal,FnEnd,h_4,b_8,c_9]
theorem pc130:PC Tryz.prog 130 C130:=pc_of (g:=g130) (zaj _ g130_s.2.1 ⟨pc151,trivial⟩) (ent Tryz.func130) fun x y h=>w130 h

def C88:List AV→Option AV:=specP (X:=THeap × Unit) fun x=>spec_CanonHeap x.1
theorem C88_eq {h_} {y} (h:spec_CanonHeap h_=some y):C88 [av .shr h_]=some (Res.res y):=zai (x:=(h_,())) h
def g88:Cfg:={ P:=Tryz.prog,take:=[(88,22),(88,40),(88,54)],keep:=[((88,6),{ hd:=[1,2,3,4,5],bx:=[],ex:=[1,2,3,4],rt:=[2] }),((88,10),{ hd:=[1,2,3,4,6],bx:=[],ex:=[2,4],rt:=[2] })],gho:=[],ctx:=[(78,C78),(80,C80),(130,C130)] }
@[simp] theorem g88_s:type_of% (cfg_s (g:=g88) rfl):=cfg_s rfl
theorem w88 {h_} {y} (hp:spec_CanonHeap h_=some y):∃ m,callo g88 0 88 [av .shr h_] mem0=some (Res.res y,m):=by
 refine st0 [.cell 2 31] Tryz.func88 ?_
 unfold spec_CanonHeap at hp
 obtain ⟨y_1,h_2,hp⟩:=zab hp
 have c_3:=C78_eq h_2
 simp at c_3
 simp [Tryz.f88,c_3]
 rcases zad hp with ⟨h_4,hp⟩|⟨h_4,hp⟩
 ·try simp at h_4
  obtain ⟨y_5,h_6,hp⟩:=zab hp
  have c_7:=C80_eq h_6
  simp at c_7
  try simp [h_4,c_7]
  obtain ⟨r_26,h_27,hp⟩:=zab hp
  obtain ⟨I_10,I_10_⟩:=exV fun (s_8:Int × (List Int)) (σ:St)=>(σ.env 1=uP (1,1)∧σ.env 2=uP (1,2)∧σ.env 3=uL .own y_5∧σ.env 4=uP (1,4)∧σ.env 5=uI s_8.1∧σ.mem (1,1)=some [cL .shr h_.vars,cL .shr h_.next]∧σ.mem (1,2)=some [.l .own 0 [],.l .own 0 []]∧σ.mem (1,4)=some [cL .own s_8.2,.l .own 0 []])∧NoBox [(1,1),(1,2),(1,4)] σ.mem
  obtain ⟨X_11,X_11_⟩:=exV fun (r_26:(List Int)) (out:Out)=>∃ σ:St,out=.exit 0 σ∧(σ.env 1=uP (1,1)∧σ.env 2=uP (1,2)∧σ.env 3=uL .own y_5∧σ.env 4=uP (1,4)∧σ.mem (1,1)=some [cL .shr h_.vars,cL .shr h_.next]∧σ.mem (1,2)=some [.l .own 0 [],.l .own 0 []]∧σ.mem (1,4)=some [cL .own r_26,.l .own 0 []])∧NoBox [(1,1),(1,2),(1,4)] σ.mem
  refine loopP ({ hd:=[1,2,3,4,5],bx:=[],ex:=[1,2,3,4],rt:=[2] }) I_10 X_11 h_27 (by exact rfl) ?_ ?_ ?_
  ·rw [I_10_]
   exact ⟨by simp [zac,zaa,h_4],NoBox.restrict (by intro k hk hb;simp at hk hb;simp [hk,hb,h_4])⟩
  ·intro s_8 σ_12 a_9 hI hp
   rw [I_10_] at hI
   obtain ⟨q_14,hn_13⟩:=hI
   try simp [h_4,q_14]
   rcases zad hp with ⟨h_15,hp⟩|⟨h_15,hp⟩
   ·try simp at h_15
    obtain ⟨e_16,h_17,hp⟩:=zab hp
    have b_18:=at_lo h_17
    have b_19:=at_hi h_17
    try simp at b_18 b_19
    have c_20:=seg_at' h_17 0 1 (by decide) (ds:=[.sc (.int .i64 e_16)]) rfl
    try simp at c_20
    obtain ⟨y_21,h_22,hp⟩:=zab hp
    have c_23:=C130_eq h_22
    simp at c_23
    obtain ⟨_,h_24,hp⟩:=zab hp
    have b_25:=room_ok h_24
    try simp at b_25
    cases hp
    try simp [h_4,q_14,h_15,b_18,b_19,c_20,c_23,b_25]
    refine zah ?_
    rw [I_10_]
    exact ⟨by simp [zac,zaa,h_4,q_14,h_15,b_18,b_19,c_20,c_23,b_25],NoBox.restrict (by intro k hk hb;simp at hk hb;simp [hk,hb,h_4,q_14,h_15,b_18,b_19,c_20,c_23,b_25,hn_13 k (by simp [hk,hb])])⟩
   ·try simp at h_15
    cases hp
    try simp [h_4,q_14,h_15]
    refine zal ?_
    rw [X_11_]
    exact ⟨_,rfl,by simp [zac,zaa,h_4,q_14,h_15],NoBox.restrict (by intro k hk hb;simp at hk hb;simp [hk,hb,h_4,q_14,h_15,hn_13 k (by simp [hk,hb])])⟩
  ·intro out hX
   rw [X_11_] at hX
   obtain ⟨σ_28,rfl,q_30,hn_29⟩:=hX
   try simp [h_4,q_30]
   obtain ⟨r_54,h_55,hp⟩:=zab hp
   obtain ⟨I_33,I_33_⟩:=exV fun (s_31:Int × (List Int)) (σ:St)=>(σ.env 1=uP (1,1)∧σ.env 2=uP (1,2)∧σ.env 3=uL .own y_5∧σ.env 4=uP (1,4)∧σ.env 6=uI s_31.1∧σ.mem (1,1)=some [cL .shr h_.vars,cL .shr h_.next]∧σ.mem (1,2)=some [.l .own 0 [],.l .own 0 []]∧σ.mem (1,4)=some [cL .own r_26,cL .own s_31.2])∧NoBox [(1,1),(1,2),(1,4)] σ.mem
   obtain ⟨X_34,X_34_⟩:=exV fun (r_54:(List Int)) (out:Out)=>∃ σ:St,out=.exit 2 σ∧(σ.env 2=uP (1,2)∧σ.env 4=uP (1,4)∧σ.mem (1,1)=some [cL .shr h_.vars,cL .shr h_.next]∧σ.mem (1,2)=some [.l .own 0 [],.l .own 0 []]∧σ.mem (1,4)=some [cL .own r_26,cL .own r_54])∧NoBox [(1,1),(1,2),(1,4)] σ.mem
   refine loopP ({ hd:=[1,2,3,4,6],bx:=[],ex:=[2,4],rt:=[2] }) I_33 X_34 h_55 (by exact rfl) ?_ ?_ ?_
   ·rw [I_33_]
    exact ⟨by simp [zac,zaa,h_4,q_30],NoBox.restrict (by intro k hk hb;simp at hk hb;simp [hk,hb,h_4,q_30,hn_29 k (by simp [hk,hb])])⟩
   ·intro s_31 σ_35 a_32 hI hp
    rw [I_33_] at hI
    obtain ⟨q_37,hn_36⟩:=hI
    try simp [h_4,q_37]
    rcases zad hp with ⟨h_38,hp⟩|⟨h_38,hp⟩
    ·try simp at h_38
     obtain ⟨e_39,h_40,hp⟩:=zab hp
     have b_41:=at_lo h_40
     have b_42:=at_hi h_40
     try simp at b_41 b_42
     have c_43:=seg_at' h_40 0 1 (by decide) (ds:=[.sc (.int .i64 e_39)]) rfl
     try simp at c_43
     obtain ⟨e_44,h_45,hp⟩:=zab hp
     have b_46:=at_lo h_45
     have b_47:=at_hi h_45
     try simp at b_46 b_47
     have c_48:=seg_at' h_45 0 1 (by decide) (ds:=[.sc (.int .i64 e_44)]) rfl
     try simp at c_48
     obtain ⟨y_49,h_50,hp⟩:=zab hp
     have c_51:=C130_eq h_50
     simp at c_51
     obtain ⟨_,h_52,hp⟩:=zab hp
     have b_53:=room_ok h_52
     try simp at b_53
     cases hp
     try simp [h_4,q_37,h_38,b_41,b_42,c_43,b_46,b_47,c_48,c_51,b_53]
     refine zah ?_
     rw [I_33_]
     exact ⟨by simp [zac,zaa,h_4,q_37,h_38,b_41,b_42,c_43,b_46,b_47,c_48,c_51,b_53],NoBox.restrict (by intro k hk hb;simp at hk hb;simp [hk,hb,h_4,q_37,h_38,b_41,b_42,c_43,b_46,b_47,c_48,c_51,b_53,hn_36 k (by simp [hk,hb])])⟩
    ·try simp at h_38
     cases hp
     try simp [h_4,q_37,h_38]
     refine zal ?_
     rw [X_34_]
     exact ⟨_,rfl,by simp [zac,zaa,h_4,q_37,h_38],NoBox.restrict (by intro k hk hb;simp at hk hb;simp [hk,hb,h_4,q_37,h_38,hn_36 k (by simp [hk,hb])])⟩
   ·intro out hX
    rw [X_34_] at hX
    obtain ⟨σ_56,rfl,q_58,hn_57⟩:=hX
    cases hp
    simp [Goal,FnEnd,retR,rsrc,RSrc.val,nodupR,nodup,tupPart,h_4,q_58]
 ·try simp at h_4
  cases hp
  simp [Goal,FnEnd,retR,rsrc,RSrc.val,nodupR,nodup,tupPart,h_4]
theorem pc88:PC Tryz.prog 88 C88:=pc_of (g:=g88) (zaj _ g88_s.2.1 ⟨pc78,pc80,pc130,trivial⟩) (ent Tryz.func88) fun x y h=>w88 h

def C50:List AV→Option AV:=specP (X:=(List ByteArray) × TStmt × THeap × Unit) fun x=>spec_Exec x.1 x.2.1 x.2.2.1
theorem C50_eq {vars s h_} {y} (h:spec_Exec vars s h_=some y):C50 [av .shr vars,av .shr s,av .shr h_]=some (Res.res y):=zai (x:=(vars,s,h_,())) h
def g50:Cfg:={ P:=Tryz.prog,take:=[(50,72)],keep:=[],gho:=[],ctx:=[(47,C47),(48,C48),(76,C76),(81,C81),(82,C82),(83,C83),(84,C84),(85,C85),(87,C87),(88,C88)],give:=[(50,78)],octx:=[(86,C86)] }
@[simp] theorem g50_s:type_of% (cfg_s (g:=g50) rfl):=cfg_s rfl
theorem kj50 {g:Cfg} {d f:Nat} (id:Nat) (ops:Array Oper) (draw:Bool) (K:List It) (σ:St) (h:[1,5,9].contains id=false):evk g d f (.region id ops draw) K σ=ghoK g d f ((lookK (f,id) g.gho).getD []) ops (behK ((lookK (f,behind id) g.gho).getD []) K) σ:=k_regionS id ops draw K σ h
theorem w50 {vars s h_} {y} (hp:spec_Exec vars s h_=some y):∃ m,callo g50 0 50 [av .shr vars,av .shr s,av .shr h_] mem0=some (Res.res y,m):=by
 refine st0 [.cell 6 31,.tmp 7] Tryz.func50 ?_
 unfold spec_Exec at hp
 simp [Tryz.f50,-zae,kj50]
 obtain ⟨r_1,h_2,hp⟩:=zab hp
 refine joinP (J:=fun (σ:St)=>(σ.env 0=uL .shr vars∧σ.env 4=uP (1,4)∧σ.env 5=uP (1,5)∧σ.env 6=uP (1,6)∧σ.env 22=uB r_1∧σ.mem (1,4)=some [cI s.kind,.s (.string s.a),.s (.string s.b)]∧σ.mem (1,5)=some [cL .shr h_.vars,cL .shr h_.next]∧σ.mem (1,6)=some [.l .own 0 [],.l .own 0 []])∧NoBox [(1,4),(1,5),(1,6)] σ.mem) ?_ ?_
 ·replace hp:=h_2
  rw [zae]
  obtain ⟨y_6,h_7,hp⟩:=zab hp
  have c_8:=C76_eq h_7
  simp at c_8
  try simp [-zae,kj50,c_8]
  rcases zad hp with ⟨h_9,hp⟩|⟨h_9,hp⟩
  ·try simp at h_9
   obtain ⟨y_10,h_11,hp⟩:=zab hp
   have c_12:=C47_eq h_11
   simp at c_12
   cases hp
   try simp [-zae,kj50,h_9,c_12]
   refine goal_join ?_
   exact ⟨by simp [zac,zaa,-zae,kj50,h_9,c_12],(by intro k hk;simp at hk;simp [hk,-zae,kj50,h_9,c_12])⟩
  ·try simp at h_9
   cases hp
   try simp [-zae,kj50,h_9]
   refine goal_join ?_
   exact ⟨by simp [zac,zaa,-zae,kj50,h_9],(by intro k hk;simp at hk;simp [hk,-zae,kj50,h_9])⟩
 ·intro σ_3 hJ
  obtain ⟨q_5,hn_4⟩:=hJ
  try simp [-zae,kj50,q_5]
  rcases zad hp with ⟨h_13,hp⟩|⟨h_13,hp⟩
  ·try simp at h_13
   cases hp
   simp [Goal,FnEnd,retR,rsrc,RSrc.val,nodupR,nodup,tupPart,-zae,kj50,q_5,h_13]
  ·try simp at h_13
   obtain ⟨y_14,h_15,hp⟩:=zab hp
   have c_16:=C82_eq h_15
   simp at c_16
   obtain ⟨y_17,h_18,hp⟩:=zab hp
   have c_19:=C81_eq h_18
   simp at c_19
   obtain ⟨y_20,h_21,hp⟩:=zab hp
   have c_22:=C82_eq h_21
   simp at c_22
   obtain ⟨y_23,h_24,hp⟩:=zab hp
   have c_25:=C81_eq h_24
   simp at c_25
   try simp [-zae,kj50,q_5,h_13,c_16,c_19,c_22,c_25]
   obtain ⟨r_26,h_27,hp⟩:=zab hp
   refine joinP (J:=fun (σ:St)=>(σ.env 4=uP (1,4)∧σ.env 5=uP (1,5)∧σ.env 6=uP (1,6)∧σ.env 8=uI y_17∧σ.env 9=uI y_23∧σ.env 34=uB r_26∧σ.mem (1,4)=some [cI s.kind,.s (.string s.a),.s (.string s.b)]∧σ.mem (1,5)=some [cL .shr h_.vars,cL .shr h_.next]∧σ.mem (1,6)=some [.l .own 0 [],.l .own 0 []])∧NoBox [(1,4),(1,5),(1,6)] σ.mem) ?_ ?_
   ·replace hp:=h_27
    rw [zae]
    obtain ⟨y_31,h_32,hp⟩:=zab hp
    have c_33:=C83_eq h_32
    simp at c_33
    try simp [-zae,kj50,q_5,h_13,c_16,c_19,c_22,c_25,c_33]
    rcases zad hp with ⟨h_34,hp⟩|⟨h_34,hp⟩
    ·try simp at h_34
     obtain ⟨e_35,h_36,hp⟩:=zab hp
     have b_37:=at_lo h_36
     have b_38:=at_hi h_36
     try simp at b_37 b_38
     have c_39:=seg_at' h_36 0 1 (by decide) (ds:=[.sc (.int .i64 e_35)]) rfl
     try simp at c_39
     obtain ⟨e_40,h_41,hp⟩:=zab hp
     have b_42:=at_lo h_41
     have b_43:=at_hi h_41
     try simp at b_42 b_43
     have c_44:=seg_at' h_41 0 1 (by decide) (ds:=[.sc (.int .i64 e_40)]) rfl
     try simp at c_44
     obtain ⟨y_45,h_46,hp⟩:=zab hp
     have c_47:=C84_eq h_46
     simp at c_47
     cases hp
     try simp [-zae,kj50,q_5,h_13,h_34,b_37,b_38,c_39,b_42,b_43,c_44,c_47]
     refine goal_join ?_
     exact ⟨by simp [zac,zaa,-zae,kj50,q_5,h_13,h_34,b_37,b_38,c_39,b_42,b_43,c_44,c_47],(by intro k hk;simp at hk;simp [hk,-zae,kj50,q_5,h_13,h_34,b_37,b_38,c_39,b_42,b_43,c_44,c_47,hn_4 k (by simp [hk])])⟩
    ·try simp at h_34
     cases hp
     try simp [-zae,kj50,q_5,h_13,h_34]
     refine goal_join ?_
     exact ⟨by simp [zac,zaa,-zae,kj50,q_5,h_13,h_34],(by intro k hk;simp at hk;simp [hk,-zae,kj50,q_5,h_13,h_34,hn_4 k (by simp [hk])])⟩
   ·intro σ_28 hJ
    obtain ⟨q_30,hn_29⟩:=hJ
    try simp [-zae,kj50,h_13,q_30]
    rcases zad hp with ⟨h_48,hp⟩|⟨h_48,hp⟩
    ·try simp at h_48
     cases hp
     simp [Goal,FnEnd,retR,rsrc,RSrc.val,nodupR,nodup,tupPart,-zae,kj50,h_13,q_30,h_48]
    ·try simp at h_48
     obtain ⟨y_49,h_50,hp⟩:=zab hp
     have c_51:=C85_eq h_50
     simp at c_51
     try simp [-zae,kj50,h_13,q_30,h_48,c_51]
     rcases zad hp with ⟨h_52,hp⟩|⟨h_52,hp⟩
     ·try simp at h_52
      cases hp
      simp [Goal,FnEnd,retR,rsrc,RSrc.val,nodupR,nodup,tupPart,-zae,kj50,h_13,q_30,h_48,h_52]
     ·try simp at h_52
      try simp [-zae,kj50,h_13,q_30,h_48,h_52]
      obtain ⟨r_53,h_54,hp⟩:=zab hp
      refine joinP (J:=fun (σ:St)=>(σ.env 4=uP (1,4)∧σ.env 5=uP (1,5)∧σ.env 6=uP (1,6)∧σ.env 8=uI y_17∧σ.env 9=uI y_23∧σ.env 61=uB r_53∧σ.mem (1,4)=some [cI s.kind,.s (.string s.a),.s (.string s.b)]∧σ.mem (1,5)=some [cL .shr h_.vars,cL .shr h_.next]∧σ.mem (1,6)=some [.l .own 0 [],.l .own 0 []])∧NoBox [(1,4),(1,5),(1,6)] σ.mem) ?_ ?_
      ·replace hp:=h_54
       rw [zae]
       try simp [-zae,kj50,h_13,q_30,h_48,h_52]
       rcases zad hp with ⟨h_58,hp⟩|⟨h_58,hp⟩
       ·try simp at h_58
        cases hp
        try simp [-zae,kj50,h_13,q_30,h_48,h_52,h_58]
        refine goal_join ?_
        exact ⟨by simp [zac,zaa,-zae,kj50,h_13,q_30,h_48,h_52,h_58],(by intro k hk;simp at hk;simp [hk,-zae,kj50,h_13,q_30,h_48,h_52,h_58,hn_29 k (by simp [hk])])⟩
       ·try simp at h_58
        cases hp
        try simp [-zae,kj50,h_13,q_30,h_48,h_52,h_58]
        refine goal_join ?_
        exact ⟨by simp [zac,zaa,-zae,kj50,h_13,q_30,h_48,h_52,h_58],(by intro k hk;simp at hk;simp [hk,-zae,kj50,h_13,q_30,h_48,h_52,h_58,hn_29 k (by simp [hk])])⟩
      ·intro σ_55 hJ
       obtain ⟨q_57,hn_56⟩:=hJ
       try simp [-zae,kj50,h_13,h_48,h_52,q_57]
       rcases zad hp with ⟨h_59,hp⟩|⟨h_59,hp⟩
       ·try simp at h_59
        cases hp
        simp [Goal,FnEnd,retR,rsrc,RSrc.val,nodupR,nodup,tupPart,-zae,kj50,h_13,h_48,h_52,q_57,h_59]
       ·try simp at h_59
        obtain ⟨y_60,h_61,hp⟩:=zab hp
        have c_62:=C48_eq h_61
        simp at c_62
        obtain ⟨y_65,h_66,hp⟩:=zab hp
        have c_67:=C86_eq h_66
        simp at c_67
        have n_68:=hn_56 (1,10) (by simp)
        try simp [-zae,kj50,h_13,h_48,h_52,q_57,h_59,c_62,c_67,n_68]
        rcases zad hp with ⟨h_69,hp⟩|⟨h_69,hp⟩
        ·try simp at h_69
         cases hp
         simp [Goal,FnEnd,retR,rsrc,RSrc.val,nodupR,nodup,tupPart,-zae,kj50,h_13,h_48,h_52,q_57,h_59,h_69]
        ·try simp at h_69
         obtain ⟨y_70,h_71,hp⟩:=zab hp
         have c_72:=C87_eq h_71
         simp at c_72
         try simp [-zae,kj50,h_13,h_48,h_52,q_57,h_59,h_69,c_72]
         rcases zad hp with ⟨h_73,hp⟩|⟨h_73,hp⟩
         ·try simp at h_73
          cases hp
          simp [Goal,FnEnd,retR,rsrc,RSrc.val,nodupR,nodup,tupPart,-zae,kj50,h_13,h_48,h_52,q_57,h_59,h_69,h_73]
         ·try simp at h_73
          obtain ⟨y_74,h_75,hp⟩:=zab hp
          have c_76:=C88_eq h_75
          simp at c_76
          cases hp
          simp [Goal,FnEnd,retR,rsrc,RSrc.val,nodupR,nodup,tupPart,-zae,kj50,h_13,h_48,h_52,q_57,h_59,h_69,h_73,c_76]
theorem pc50:PC Tryz.prog 50 C50:=pc_of (g:=g50) (ctxOK_ofO [(47,C47),(48,C48),(76,C76),(81,C81),(82,C82),(83,C83),(84,C84),(85,C85),(87,C87),(88,C88)] rfl ⟨pc47,pc48,pc76,pc81,pc82,pc83,pc84,pc85,pc87,pc88,trivial⟩ [(86,C86)] rfl ⟨po86,trivial⟩) (ent Tryz.func50) fun x y h=>w50 h

def C29:List AV→Option AV:=specP (X:=TProgram × (List THeap) × Unit) fun x=>spec_StatesFrom x.1 x.2.1
theorem C29_eq {p_ start} {y} (h:spec_StatesFrom p_ start=some y):C29 [av .shr p_,av .shr start]=some (Res.res y):=zai (x:=(p_,start,())) h
def g29:Cfg:={ P:=Tryz.prog,take:=[(29,18),(29,35),(29,74),(29,89),(29,92),(29,99)],keep:=[((29,5),{ hd:=[1,2,6,7],bx:=[],ex:=[2,6],rt:=[4,5] }),((29,11),{ hd:=[2,6,8],bx:=[11,12],ex:=[6],rt:=[4,5] }),((29,15),{ hd:=[2,6,8,9,10],bx:=[11,12],ex:=[2,6,8],rt:=[4,5] })],gho:=[],ctx:=[(46,C46),(47,C47),(50,C50),(63,C63)],give:=[(29,41),(29,94)],octx:=[(68,C68)] }
@[simp] theorem g29_s:type_of% (cfg_s (g:=g29) rfl):=cfg_s rfl
theorem w29 {p_ start} {y} (hp:spec_StatesFrom p_ start=some y):∃ m,callo g29 0 29 [av .shr p_,av .shr start] mem0=some (Res.res y,m):=by
 refine st0 [.tmp 4,.tmp 5] Tryz.func29 ?_
 unfold spec_StatesFrom at hp
 obtain ⟨y_1,h_2,hp⟩:=zab hp
 have c_3:=C46_eq h_2
 simp at c_3
 simp [Tryz.f29,c_3]
 rcases zad hp with ⟨h_4,hp⟩|⟨h_4,hp⟩
 ·try simp at h_4
  try simp [h_4]
  obtain ⟨r_32,h_33,hp⟩:=zab hp
  obtain ⟨I_7,I_7_⟩:=exV fun (s_5:(List TState) × Int) (σ:St)=>(σ.env 1=uL .shr start∧σ.env 2=uP (1,2)∧σ.env 6=uL .own s_5.1∧σ.env 7=uI s_5.2∧σ.mem (1,2)=some [cL .shr p_.vars,cI p_.points,cL .shr p_.edges])∧NoBox [(1,2)] σ.mem
  obtain ⟨X_8,X_8_⟩:=exV fun (r_32:(Unit) ⊕ ((List TState))) (out:Out)=>Sum.elim (fun r_32=>∃ σ:St,out=.ret σ∧(σ.env 4=.one (.l .own 0 [])∧σ.env 5=uB false∧σ.mem (1,2)=some [cL .shr p_.vars,cI p_.points,cL .shr p_.edges])∧NoBox [(1,2)] σ.mem) (fun r_32=>∃ σ:St,out=.exit 0 σ∧(σ.env 2=uP (1,2)∧σ.env 6=uL .own r_32∧σ.mem (1,2)=some [cL .shr p_.vars,cI p_.points,cL .shr p_.edges])∧NoBox [(1,2)] σ.mem) r_32
  refine loopP ({ hd:=[1,2,6,7],bx:=[],ex:=[2,6],rt:=[4,5] }) I_7 X_8 h_33 (by exact rfl) ?_ ?_ ?_
  ·rw [I_7_]
   exact ⟨by simp [zac,zaa,h_4],NoBox.restrict (by intro k hk hb;simp at hk hb;simp [hk,hb,h_4])⟩
  ·intro s_5 σ_9 a_6 hI hp
   rw [I_7_] at hI
   obtain ⟨q_11,hn_10⟩:=hI
   try simp [h_4,q_11]
   rcases zad hp with ⟨h_12,hp⟩|⟨h_12,hp⟩
   ·try simp at h_12
    obtain ⟨e_13,h_14,hp⟩:=zab hp
    have b_15:=at_lo h_14
    have b_16:=at_hi h_14
    try simp at b_15 b_16
    have c_17:=seg_at' h_14 0 2 (by decide) (ds:=[.sl e_13.vars.length (encL e_13.vars),.sl e_13.next.length (encL e_13.next)]) rfl
    try simp at c_17
    obtain ⟨y_18,h_19,hp⟩:=zab hp
    have c_20:=C47_eq h_19
    simp at c_20
    try simp [h_4,q_11,h_12,b_15,b_16,c_17,c_20]
    rcases zad hp with ⟨h_21,hp⟩|⟨h_21,hp⟩
    ·try simp at h_21
     obtain ⟨e_22,h_23,hp⟩:=zab hp
     cases Option.some.inj (h_14.symm.trans h_23)
     have b_24:=at_lo h_14
     have b_25:=at_hi h_14
     try simp at b_24 b_25
     have c_26:=seg_at' h_14 0 2 (by decide) (ds:=[.sl e_13.vars.length (encL e_13.vars),.sl e_13.next.length (encL e_13.next)]) rfl
     try simp at c_26
     obtain ⟨y_29,h_30,hp⟩:=zab hp
     have c_31:=C68_eq (.inr rfl) h_30
     simp at c_31
     cases hp
     try simp [h_4,q_11,h_12,h_21,b_24,b_25,c_26,c_31]
     refine zah ?_
     rw [I_7_]
     exact ⟨by simp [zac,zaa,h_4,q_11,h_12,h_21,b_24,b_25,c_26,c_31],NoBox.restrict (by intro k hk hb;simp at hk hb;simp [hk,hb,h_4,q_11,h_12,h_21,b_24,b_25,c_26,c_31,hn_10 k (by simp [hk,hb])])⟩
    ·try simp at h_21
     cases hp
     try simp [h_4,q_11,h_12,h_21]
     refine zao ?_
     rw [X_8_]
     exact ⟨_,rfl,by simp [zac,zaa,h_4,q_11,h_12,h_21],NoBox.restrict (by intro k hk hb;simp at hk hb;simp [hk,hb,h_4,q_11,h_12,h_21,hn_10 k (by simp [hk,hb])])⟩
   ·try simp at h_12
    cases hp
    try simp [h_4,q_11,h_12]
    refine zal ?_
    rw [X_8_]
    exact ⟨_,rfl,by simp [zac,zaa,h_4,q_11,h_12],NoBox.restrict (by intro k hk hb;simp at hk hb;simp [hk,hb,h_4,q_11,h_12,hn_10 k (by simp [hk,hb])])⟩
  ·intro out hX
   rw [X_8_] at hX
   rcases r_32 with r_32 | r_32
   ·simp only [Sum.elim_inl,Sum.elim_inr] at hX hp
    obtain ⟨σ_34,rfl,q_36,hn_35⟩:=hX
    cases hp
    simp [Goal,FnEnd,retR,rsrc,RSrc.val,nodupR,nodup,tupPart,h_4,q_36]
   ·simp only [Sum.elim_inl,Sum.elim_inr] at hX hp
    obtain ⟨σ_37,rfl,q_39,hn_38⟩:=hX
    try simp [h_4,q_39]
    obtain ⟨r_96,h_97,hp⟩:=zab hp
    obtain ⟨I_42,I_42_⟩:=exV fun (s_40:(List TState) × Int) (σ:St)=>(σ.env 2=uP (1,2)∧σ.env 6=uL .own s_40.1∧σ.env 8=uI s_40.2∧σ.mem (1,2)=some [cL .shr p_.vars,cI p_.points,cL .shr p_.edges])∧NoBox [(1,2)] σ.mem
    obtain ⟨X_43,X_43_⟩:=exV fun (r_96:(List TState)) (out:Out)=>∃ σ:St,out=.exit 2 σ∧(σ.env 6=uL .own r_96∧σ.mem (1,2)=some [cL .shr p_.vars,cI p_.points,cL .shr p_.edges])∧NoBox [(1,2)] σ.mem
    refine loopP ({ hd:=[2,6,8],bx:=[11,12],ex:=[6],rt:=[4,5] }) I_42 X_43 h_97 (by exact rfl) ?_ ?_ ?_
    ·rw [I_42_]
     exact ⟨by simp [zac,zaa,h_4,q_39],NoBox.restrict (by intro k hk hb;simp at hk hb;simp [hk,hb,h_4,q_39,hn_38 k (by simp [hk,hb])])⟩
    ·intro s_40 σ_44 a_41 hI hp
     rw [I_42_] at hI
     obtain ⟨q_46,hn_45⟩:=hI
     try simp [h_4,q_46]
     rcases zad hp with ⟨h_47,hp⟩|⟨h_47,hp⟩
     ·try simp at h_47
      try simp [h_4,q_46,h_47]
      rcases zad hp with ⟨h_48,hp⟩|⟨h_48,hp⟩
      ·try simp at h_48
       obtain ⟨e_49,h_50,hp⟩:=zab hp
       have b_51:=at_lo h_50
       have b_52:=at_hi h_50
       try simp at b_51 b_52
       have c_53:=seg_at' h_50 0 1 (by decide) (ds:=[.sc (.int .i64 e_49.point)]) rfl
       try simp at c_53
       obtain ⟨y_54,h_55,hp⟩:=zab hp
       have c_56:=C63_eq h_55
       simp at c_56
       try simp [h_4,q_46,h_47,h_48,b_51,b_52,c_53,c_56]
       obtain ⟨r_91,h_92,hp⟩:=zab hp
       obtain ⟨I_59,I_59_⟩:=exV fun (s_57:(List TState) × Int) (σ:St)=>(σ.env 2=uP (1,2)∧σ.env 6=uL .own s_57.1∧σ.env 8=uI s_40.2∧σ.env 9=uL .own y_54∧σ.env 10=uI s_57.2∧σ.mem (1,2)=some [cL .shr p_.vars,cI p_.points,cL .shr p_.edges])∧NoBox [(1,2)] σ.mem
       obtain ⟨X_60,X_60_⟩:=exV fun (r_91:(List TState)) (out:Out)=>∃ σ:St,out=.exit 4 σ∧(σ.env 2=uP (1,2)∧σ.env 6=uL .own r_91∧σ.env 8=uI s_40.2∧σ.mem (1,2)=some [cL .shr p_.vars,cI p_.points,cL .shr p_.edges])∧NoBox [(1,2)] σ.mem
       refine loopP ({ hd:=[2,6,8,9,10],bx:=[11,12],ex:=[2,6,8],rt:=[4,5] }) I_59 X_60 h_92 (by exact rfl) ?_ ?_ ?_
       ·rw [I_59_]
        exact ⟨by simp [zac,zaa,h_4,q_46,h_47,h_48],NoBox.restrict (by intro k hk hb;simp at hk hb;simp [hk,hb,h_4,q_46,h_47,h_48,hn_45 k (by simp [hk,hb])])⟩
       ·intro s_57 σ_61 a_58 hI hp
        rw [I_59_] at hI
        obtain ⟨q_63,hn_62⟩:=hI
        try simp [h_4,h_47,h_48,q_63]
        rcases zad hp with ⟨h_64,hp⟩|⟨h_64,hp⟩
        ·try simp at h_64
         obtain ⟨e_65,h_66,hp⟩:=zab hp
         have b_67:=at_lo h_66
         have b_68:=at_hi h_66
         try simp at b_67 b_68
         have c_69:=seg_at' h_66 0 1 (by decide) (ds:=[.sc (.int .i64 e_65)]) rfl
         try simp at c_69
         obtain ⟨e_70,h_71,hp⟩:=zab hp
         have b_72:=at_lo h_71
         have b_73:=at_hi h_71
         try simp at b_72 b_73
         have c_74:=seg_at' h_71 0 5 (by decide) (ds:=[.sc (.int .i64 e_70.from_),.sc (.int .i64 e_70.to_),.sc (.int .i64 e_70.stmt.kind),.sc (.string e_70.stmt.a),.sc (.string e_70.stmt.b)]) rfl
         try simp at c_74
         have n_75:=hn_62 (1,11) (by simp)
         obtain ⟨e_76,h_77,hp⟩:=zab hp
         have b_78:=at_lo h_77
         have b_79:=at_hi h_77
         try simp at b_78 b_79
         have c_80:=seg_at' h_77 1 2 (by decide) (ds:=[.sl e_76.heap.vars.length (encL e_76.heap.vars),.sl e_76.heap.next.length (encL e_76.heap.next)]) rfl
         try simp at c_80
         obtain ⟨y_81,h_82,hp⟩:=zab hp
         have c_83:=C50_eq h_82
         simp at c_83
         have n_84:=hn_62 (1,12) (by simp)
         try simp [h_4,h_47,h_48,q_63,h_64,b_67,b_68,c_69,b_72,b_73,c_74,n_75,b_78,b_79,c_80,c_83,n_84]
         rcases zad hp with ⟨h_85,hp⟩|⟨h_85,hp⟩
         ·try simp at h_85
          obtain ⟨y_88,h_89,hp⟩:=zab hp
          have c_90:=C68_eq (.inl rfl) h_89
          simp at c_90
          cases hp
          try simp [h_4,h_47,h_48,q_63,h_64,h_85,c_90]
          refine zah ?_
          rw [I_59_]
          exact ⟨by simp [zac,zaa,h_4,h_47,h_48,q_63,h_64,h_85,c_90],NoBox.restrict (by intro k hk hb;simp at hk hb;simp [hk,hb,h_4,h_47,h_48,q_63,h_64,h_85,c_90,hn_62 k (by simp [hk,hb])])⟩
         ·try simp at h_85
          cases hp
          try simp [h_4,h_47,h_48,q_63,h_64,h_85]
          refine zah ?_
          rw [I_59_]
          exact ⟨by simp [zac,zaa,h_4,h_47,h_48,q_63,h_64,h_85],NoBox.restrict (by intro k hk hb;simp at hk hb;simp [hk,hb,h_4,h_47,h_48,q_63,h_64,h_85,hn_62 k (by simp [hk,hb])])⟩
        ·try simp at h_64
         cases hp
         try simp [h_4,h_47,h_48,q_63,h_64]
         refine zal ?_
         rw [X_60_]
         exact ⟨_,rfl,by simp [zac,zaa,h_4,h_47,h_48,q_63,h_64],NoBox.restrict (by intro k hk hb;simp at hk hb;simp [hk,hb,h_4,h_47,h_48,q_63,h_64,hn_62 k (by simp [hk,hb])])⟩
       ·intro out hX
        rw [X_60_] at hX
        obtain ⟨σ_93,rfl,q_95,hn_94⟩:=hX
        cases hp
        try simp [h_4,h_47,h_48,q_95]
        refine zah ?_
        rw [I_42_]
        exact ⟨by simp [zac,zaa,h_4,h_47,h_48,q_95],NoBox.restrict (by intro k hk hb;simp at hk hb;simp [hk,hb,h_4,h_47,h_48,q_95,hn_94 k (by simp [hk,hb])])⟩
      ·try simp at h_48
       cases hp
       try simp [h_4,q_46,h_47,h_48]
       refine zal ?_
       rw [X_43_]
       exact ⟨_,rfl,by simp [zac,zaa,h_4,q_46,h_47,h_48],NoBox.restrict (by intro k hk hb;simp at hk hb;simp [hk,hb,h_4,q_46,h_47,h_48,hn_45 k (by simp [hk,hb])])⟩
     ·try simp at h_47
      cases hp
      try simp [h_4,q_46,h_47]
      refine zal ?_
      rw [X_43_]
      exact ⟨_,rfl,by simp [zac,zaa,h_4,q_46,h_47],NoBox.restrict (by intro k hk hb;simp at hk hb;simp [hk,hb,h_4,q_46,h_47,hn_45 k (by simp [hk,hb])])⟩
    ·intro out hX
     rw [X_43_] at hX
     obtain ⟨σ_98,rfl,q_100,hn_99⟩:=hX
     try simp [h_4,q_100]
     rcases zad hp with ⟨h_101,hp⟩|⟨h_101,hp⟩
     ·try simp at h_101
      cases hp
      simp [Goal,FnEnd,retR,rsrc,RSrc.val,nodupR,nodup,tupPart,h_4,q_100,h_101]
     ·try simp at h_101
      cases hp
      simp [Goal,FnEnd,retR,rsrc,RSrc.val,nodupR,nodup,tupPart,h_4,q_100,h_101]
 ·try simp at h_4
  cases hp
  simp [Goal,FnEnd,retR,rsrc,RSrc.val,nodupR,nodup,tupPart,h_4]
theorem pc29:PC Tryz.prog 29 C29:=pc_of (g:=g29) (ctxOK_ofO [(46,C46),(47,C47),(50,C50),(63,C63)] rfl ⟨pc46,pc47,pc50,pc63,trivial⟩ [(68,C68)] rfl ⟨po68,trivial⟩) (ent Tryz.func29) fun x y h=>w29 h

def C65:List AV→Option AV:=specP (X:=Int × Unit) fun x=>spec_IsError x.1
theorem C65_eq {code} {y} (h:spec_IsError code=some y):C65 [av .shr code]=some (Res.res y):=zai (x:=(code,())) h
def g65:Cfg:={ P:=Tryz.prog,take:=[],keep:=[],gho:=[],ctx:=[(49,C49)] }
@[simp] theorem g65_s:type_of% (cfg_s (g:=g65) rfl):=cfg_s rfl
theorem w65 {code} {y} (hp:spec_IsError code=some y):∃ m,callo g65 0 65 [av .shr code] mem0=some (Res.res y,m):=by
 refine st0 [.tmp 2] Tryz.func65 ?_
 unfold spec_IsError at hp
 obtain ⟨y_1,h_2,hp⟩:=zab hp
 have c_3:=C49_eq h_2
 simp at c_3
 cases hp
 simp [Tryz.f65,Goal,FnEnd,c_3]
theorem pc65:PC Tryz.prog 65 C65:=pc_of (g:=g65) (zaj _ g65_s.2.1 ⟨pc49,trivial⟩) (ent Tryz.func65) fun x y h=>w65 h

def C122:List AV→Option AV:=specP (X:=(List THeap) × Unit) fun x=>spec_l27Start x.1
theorem C122_eq {start} {y} (h:spec_l27Start start=some y):C122 [av .shr start]=some (Res.res y):=zai (x:=(start,())) h
def g122:Cfg:={ P:=Tryz.prog,take:=[(122,12)],keep:=[((122,3),{ hd:=[0,3,4],bx:=[],ex:=[3],rt:=[2] })],gho:=[],ctx:=[],give:=[(122,18)],octx:=[(68,C68)] }
@[simp] theorem g122_s:type_of% (cfg_s (g:=g122) rfl):=cfg_s rfl
theorem w122 {start} {y} (hp:spec_l27Start start=some y):∃ m,callo g122 0 122 [av .shr start] mem0=some (Res.res y,m):=by
 refine st0 [.tmp 2] Tryz.func122 ?_
 unfold spec_l27Start at hp
 simp [Tryz.f122]
 obtain ⟨r_19,h_20,hp⟩:=zab hp
 obtain ⟨I_3,I_3_⟩:=exV fun (s_1:(List TState) × Int) (σ:St)=>(σ.env 0=uL .shr start∧σ.env 3=uL .own s_1.1∧σ.env 4=uI s_1.2)∧NoBox [] σ.mem
 obtain ⟨X_4,X_4_⟩:=exV fun (r_19:(List TState)) (out:Out)=>∃ σ:St,out=.exit 0 σ∧σ.env 3=uL .own r_19∧NoBox [] σ.mem
 refine loopP ({ hd:=[0,3,4],bx:=[],ex:=[3],rt:=[2] }) I_3 X_4 h_20 (by exact rfl) ?_ ?_ ?_
 ·rw [I_3_]
  exact ⟨by simp [zac,zaa],NoBox.restrict (by intro k hk hb;simp at hk hb;simp [hk,hb])⟩
 ·intro s_1 σ_5 a_2 hI hp
  rw [I_3_] at hI
  obtain ⟨q_7,hn_6⟩:=hI
  try simp [q_7]
  rcases zad hp with ⟨h_8,hp⟩|⟨h_8,hp⟩
  ·try simp at h_8
   obtain ⟨e_9,h_10,hp⟩:=zab hp
   have b_11:=at_lo h_10
   have b_12:=at_hi h_10
   try simp at b_11 b_12
   have c_13:=seg_at' h_10 0 2 (by decide) (ds:=[.sl e_9.vars.length (encL e_9.vars),.sl e_9.next.length (encL e_9.next)]) rfl
   try simp at c_13
   obtain ⟨y_16,h_17,hp⟩:=zab hp
   have c_18:=C68_eq (.inr rfl) h_17
   simp at c_18
   cases hp
   try simp [q_7,h_8,b_11,b_12,c_13,c_18]
   refine zah ?_
   rw [I_3_]
   exact ⟨by simp [zac,zaa,q_7,h_8,b_11,b_12,c_13,c_18],NoBox.restrict (by intro k hk hb;simp at hk hb;simp [hk,hb,q_7,h_8,b_11,b_12,c_13,c_18,hn_6 k (by simp [hk,hb])])⟩
  ·try simp at h_8
   cases hp
   try simp [q_7,h_8]
   refine zal ?_
   rw [X_4_]
   exact ⟨_,rfl,by simp [zac,zaa,q_7,h_8],NoBox.restrict (by intro k hk hb;simp at hk hb;simp [hk,hb,q_7,h_8,hn_6 k (by simp [hk,hb])])⟩
 ·intro out hX
  rw [X_4_] at hX
  obtain ⟨σ_21,rfl,q_23,hn_22⟩:=hX
  cases hp
  simp [Goal,FnEnd,q_23]
theorem pc122:PC Tryz.prog 122 C122:=pc_of (g:=g122) (ctxOK_ofO [] rfl trivial [(68,C68)] rfl ⟨po68,trivial⟩) (ent Tryz.func122) fun x y h=>w122 h

def C150:List AV→Option AV:=specP (X:=(List TState) × TState × Unit) fun x=>spec_l27At x.1 x.2.1
theorem C150_eq {list s} {y} (h:spec_l27At list s=some y):C150 [av .shr list,av .shr s]=some (Res.res y):=zai (x:=(list,s,())) h
def g150:Cfg:={ P:=Tryz.prog,take:=[],keep:=[((150,2),{ hd:=[0,3,5],bx:=[],ex:=[],rt:=[4] })],gho:=[],ctx:=[(114,C114)] }
@[simp] theorem g150_s:type_of% (cfg_s (g:=g150) rfl):=cfg_s rfl
theorem w150 {list s} {y} (hp:spec_l27At list s=some y):∃ m,callo g150 0 150 [av .shr list,av .shr s] mem0=some (Res.res y,m):=by
 refine st0 [.tmp 4] Tryz.func150 ?_
 unfold spec_l27At at hp
 simp [Tryz.f150]
 obtain ⟨r_18,h_19,hp⟩:=zab hp
 obtain ⟨I_3,I_3_⟩:=exV fun (s_1:Int) (σ:St)=>(σ.env 0=uL .shr list∧σ.env 3=uP (1,3)∧σ.env 5=uI s_1∧σ.mem (1,3)=some [cI s.point,cL .shr s.heap.vars,cL .shr s.heap.next])∧NoBox [(1,3)] σ.mem
 obtain ⟨X_4,X_4_⟩:=exV fun (r_18:(Int) ⊕ (Unit)) (out:Out)=>Sum.elim (fun r_18=>∃ σ:St,out=.ret σ∧(σ.env 4=uI r_18∧σ.mem (1,3)=some [cI s.point,cL .shr s.heap.vars,cL .shr s.heap.next])∧NoBox [(1,3)] σ.mem) (fun r_18=>∃ σ:St,out=.exit 0 σ∧σ.mem (1,3)=some [cI s.point,cL .shr s.heap.vars,cL .shr s.heap.next]∧NoBox [(1,3)] σ.mem) r_18
 refine loopP ({ hd:=[0,3,5],bx:=[],ex:=[],rt:=[4] }) I_3 X_4 h_19 (by exact rfl) ?_ ?_ ?_
 ·rw [I_3_]
  exact ⟨by simp [zac,zaa],NoBox.restrict (by intro k hk hb;simp at hk hb;simp [hk,hb])⟩
 ·intro s_1 σ_5 a_2 hI hp
  rw [I_3_] at hI
  obtain ⟨q_7,hn_6⟩:=hI
  try simp [q_7]
  rcases zad hp with ⟨h_8,hp⟩|⟨h_8,hp⟩
  ·try simp at h_8
   obtain ⟨e_9,h_10,hp⟩:=zab hp
   have b_11:=at_lo h_10
   have b_12:=at_hi h_10
   try simp at b_11 b_12
   have c_13:=seg_at' h_10 0 3 (by decide) (ds:=[.sc (.int .i64 e_9.point),.sl e_9.heap.vars.length (encL e_9.heap.vars),.sl e_9.heap.next.length (encL e_9.heap.next)]) rfl
   try simp at c_13
   obtain ⟨y_14,h_15,hp⟩:=zab hp
   have c_16:=C114_eq h_15
   simp at c_16
   try simp [q_7,h_8,b_11,b_12,c_13,c_16]
   rcases zad hp with ⟨h_17,hp⟩|⟨h_17,hp⟩
   ·try simp at h_17
    cases hp
    try simp [q_7,h_8,h_17]
    refine zao ?_
    rw [X_4_]
    exact ⟨_,rfl,by simp [zac,zaa,q_7,h_8,h_17],NoBox.restrict (by intro k hk hb;simp at hk hb;simp [hk,hb,q_7,h_8,h_17,hn_6 k (by simp [hk,hb])])⟩
   ·try simp at h_17
    cases hp
    try simp [q_7,h_8,h_17]
    refine zah ?_
    rw [I_3_]
    exact ⟨by simp [zac,zaa,q_7,h_8,h_17],NoBox.restrict (by intro k hk hb;simp at hk hb;simp [hk,hb,q_7,h_8,h_17,hn_6 k (by simp [hk,hb])])⟩
  ·try simp at h_8
   cases hp
   try simp [q_7,h_8]
   refine zal ?_
   rw [X_4_]
   exact ⟨_,rfl,by simp [zac,zaa,q_7,h_8],NoBox.restrict (by intro k hk hb;simp at hk hb;simp [hk,hb,q_7,h_8,hn_6 k (by simp [hk,hb])])⟩
 ·intro out hX
  rw [X_4_] at hX
  rcases r_18 with r_18 | r_18
  ·simp only [Sum.elim_inl,Sum.elim_inr] at hX hp
   obtain ⟨σ_20,rfl,q_22,hn_21⟩:=hX
   cases hp
   simp [Goal,FnEnd,q_22]
  ·simp only [Sum.elim_inl,Sum.elim_inr] at hX hp
   obtain ⟨σ_23,rfl,q_25,hn_24⟩:=hX
   cases hp
   simp [Goal,FnEnd,q_25]
theorem pc150:PC Tryz.prog 150 C150:=pc_of (g:=g150) (zaj _ g150_s.2.1 ⟨pc114,trivial⟩) (ent Tryz.func150) fun x y h=>w150 h

def C121:List AV→Option AV:=specP (X:=TProgram × (List TState) × Int × Int × Unit) fun x=>spec_l27Path x.1 x.2.1 x.2.2.1 x.2.2.2.1
theorem C121_eq {p_ list count at_} {y} (h:spec_l27Path p_ list count at_=some y):C121 [av .shr p_,av .shr list,av .shr count,av .shr at_]=some (Res.res y):=zai (x:=(p_,list,count,at_,())) h
def g121:Cfg:={ P:=Tryz.prog,take:=[(121,55),(121,97)],keep:=[((121,2),{ hd:=[1,2,3,4,8,9],bx:=[14,15],ex:=[1,3,8,9],rt:=[8] }),((121,5),{ hd:=[1,2,3,4,8,9,10,11],bx:=[14,15],ex:=[1,2,3,4,8,9,10],rt:=[8] }),((121,9),{ hd:=[1,2,3,4,8,9,10,11,12,13],bx:=[14,15],ex:=[1,2,3,4,8,9,10,11],rt:=[8] })],gho:=[],ctx:=[(48,C48),(50,C50),(63,C63),(150,C150)] }
@[simp] theorem g121_s:type_of% (cfg_s (g:=g121) rfl):=cfg_s rfl
theorem w121 {p_ list count at_} {y} (hp:spec_l27Path p_ list count at_=some y):∃ m,callo g121 0 121 [av .shr p_,av .shr list,av .shr count,av .shr at_] mem0=some (Res.res y,m):=by
 refine st0 [.cell 8 65] Tryz.func121 ?_
 unfold spec_l27Path at hp
 simp [Tryz.f121]
 obtain ⟨r_78,h_79,hp⟩:=zab hp
 obtain ⟨I_3,I_3_⟩:=exV fun (s_1:Int × (List Int)) (σ:St)=>(σ.env 1=uL .shr list∧σ.env 2=uI count∧σ.env 3=uI s_1.1∧σ.env 4=uP (1,4)∧σ.env 8=uP (1,8)∧σ.env 9=uL .own s_1.2∧σ.mem (1,4)=some [cL .shr p_.vars,cI p_.points,cL .shr p_.edges]∧σ.mem (1,8)=some [.l .own 0 [],.l .own 0 [],.l .own 0 [],cI 0])∧NoBox [(1,4),(1,8)] σ.mem
 obtain ⟨X_4,X_4_⟩:=exV fun (r_78:(Unit) ⊕ (Int × (List Int))) (out:Out)=>Sum.elim (fun r_78=>∃ σ:St,out=.ret σ∧(σ.env 8=uP (1,8)∧σ.mem (1,4)=some [cL .shr p_.vars,cI p_.points,cL .shr p_.edges]∧σ.mem (1,8)=some [.l .own 0 [],.l .own 0 [],.l .own 0 [],cI 0])∧NoBox [(1,4),(1,8)] σ.mem) (fun r_78=>∃ σ:St,out=.exit 0 σ∧(σ.env 1=uL .shr list∧σ.env 3=uI r_78.1∧σ.env 8=uP (1,8)∧σ.env 9=uL .own r_78.2∧σ.mem (1,4)=some [cL .shr p_.vars,cI p_.points,cL .shr p_.edges]∧σ.mem (1,8)=some [.l .own 0 [],.l .own 0 [],.l .own 0 [],cI 0])∧NoBox [(1,4),(1,8)] σ.mem) r_78
 refine loopP ({ hd:=[1,2,3,4,8,9],bx:=[14,15],ex:=[1,3,8,9],rt:=[8] }) I_3 X_4 h_79 (by exact rfl) ?_ ?_ ?_
 ·rw [I_3_]
  exact ⟨by simp [zac,zaa],NoBox.restrict (by intro k hk hb;simp at hk hb;simp [hk,hb])⟩
 ·intro s_1 σ_5 a_2 hI hp
  rw [I_3_] at hI
  obtain ⟨q_7,hn_6⟩:=hI
  try simp [q_7]
  rcases zad hp with ⟨h_8,hp⟩|⟨h_8,hp⟩
  ·try simp at h_8
   try simp [q_7,h_8]
   obtain ⟨r_72,h_73,hp⟩:=zab hp
   obtain ⟨I_11,I_11_⟩:=exV fun (s_9:Int × (List Int) × Bool × Int) (σ:St)=>(σ.env 1=uL .shr list∧σ.env 2=uI count∧σ.env 3=uI s_9.1∧σ.env 4=uP (1,4)∧σ.env 8=uP (1,8)∧σ.env 9=uL .own s_9.2.1∧σ.env 10=uB s_9.2.2.1∧σ.env 11=uI s_9.2.2.2∧σ.mem (1,4)=some [cL .shr p_.vars,cI p_.points,cL .shr p_.edges]∧σ.mem (1,8)=some [.l .own 0 [],.l .own 0 [],.l .own 0 [],cI 0])∧NoBox [(1,4),(1,8)] σ.mem
   obtain ⟨X_12,X_12_⟩:=exV fun (r_72:Int × (List Int) × Bool) (out:Out)=>∃ σ:St,out=.exit 2 σ∧(σ.env 1=uL .shr list∧σ.env 2=uI count∧σ.env 3=uI r_72.1∧σ.env 4=uP (1,4)∧σ.env 8=uP (1,8)∧σ.env 9=uL .own r_72.2.1∧σ.env 10=uB r_72.2.2∧σ.mem (1,4)=some [cL .shr p_.vars,cI p_.points,cL .shr p_.edges]∧σ.mem (1,8)=some [.l .own 0 [],.l .own 0 [],.l .own 0 [],cI 0])∧NoBox [(1,4),(1,8)] σ.mem
   refine loopP ({ hd:=[1,2,3,4,8,9,10,11],bx:=[14,15],ex:=[1,2,3,4,8,9,10],rt:=[8] }) I_11 X_12 h_73 (by exact rfl) ?_ ?_ ?_
   ·rw [I_11_]
    exact ⟨by simp [zac,zaa,q_7,h_8],NoBox.restrict (by intro k hk hb;simp at hk hb;simp [hk,hb,q_7,h_8,hn_6 k (by simp [hk,hb])])⟩
   ·intro s_9 σ_13 a_10 hI hp
    rw [I_11_] at hI
    obtain ⟨q_15,hn_14⟩:=hI
    try simp [h_8,q_15]
    rcases zad hp with ⟨h_16,hp⟩|⟨h_16,hp⟩
    ·try simp at h_16
     try simp [h_8,q_15,h_16]
     rcases zad hp with ⟨h_17,hp⟩|⟨h_17,hp⟩
     ·try simp at h_17
      cases hp
      try simp [h_8,q_15,h_16,h_17]
      refine zal ?_
      rw [X_12_]
      exact ⟨_,rfl,by simp [zac,zaa,h_8,q_15,h_16,h_17],NoBox.restrict (by intro k hk hb;simp at hk hb;simp [hk,hb,h_8,q_15,h_16,h_17,hn_14 k (by simp [hk,hb])])⟩
     ·try simp at h_17
      obtain ⟨e_18,h_19,hp⟩:=zab hp
      have b_20:=at_lo h_19
      have b_21:=at_hi h_19
      try simp at b_20 b_21
      have c_22:=seg_at' h_19 0 1 (by decide) (ds:=[.sc (.int .i64 e_18.point)]) rfl
      try simp at c_22
      obtain ⟨y_23,h_24,hp⟩:=zab hp
      have c_25:=C63_eq h_24
      simp at c_25
      try simp [h_8,q_15,h_16,h_17,b_20,b_21,c_22,c_25]
      obtain ⟨r_67,h_68,hp⟩:=zab hp
      obtain ⟨I_28,I_28_⟩:=exV fun (s_26:Int × (List Int) × Bool × Int) (σ:St)=>(σ.env 1=uL .shr list∧σ.env 2=uI count∧σ.env 3=uI s_26.1∧σ.env 4=uP (1,4)∧σ.env 8=uP (1,8)∧σ.env 9=uL .own s_26.2.1∧σ.env 10=uB s_26.2.2.1∧σ.env 11=uI s_9.2.2.2∧σ.env 12=uL .own y_23∧σ.env 13=uI s_26.2.2.2∧σ.mem (1,4)=some [cL .shr p_.vars,cI p_.points,cL .shr p_.edges]∧σ.mem (1,8)=some [.l .own 0 [],.l .own 0 [],.l .own 0 [],cI 0])∧NoBox [(1,4),(1,8)] σ.mem
      obtain ⟨X_29,X_29_⟩:=exV fun (r_67:Int × (List Int) × Bool) (out:Out)=>∃ σ:St,out=.exit 4 σ∧(σ.env 1=uL .shr list∧σ.env 2=uI count∧σ.env 3=uI r_67.1∧σ.env 4=uP (1,4)∧σ.env 8=uP (1,8)∧σ.env 9=uL .own r_67.2.1∧σ.env 10=uB r_67.2.2∧σ.env 11=uI s_9.2.2.2∧σ.mem (1,4)=some [cL .shr p_.vars,cI p_.points,cL .shr p_.edges]∧σ.mem (1,8)=some [.l .own 0 [],.l .own 0 [],.l .own 0 [],cI 0])∧NoBox [(1,4),(1,8)] σ.mem
      refine loopP ({ hd:=[1,2,3,4,8,9,10,11,12,13],bx:=[14,15],ex:=[1,2,3,4,8,9,10,11],rt:=[8] }) I_28 X_29 h_68 (by exact rfl) ?_ ?_ ?_
      ·rw [I_28_]
       exact ⟨by simp [zac,zaa,h_8,q_15,h_16,h_17],NoBox.restrict (by intro k hk hb;simp at hk hb;simp [hk,hb,h_8,q_15,h_16,h_17,hn_14 k (by simp [hk,hb])])⟩
      ·intro s_26 σ_30 a_27 hI hp
       rw [I_28_] at hI
       obtain ⟨q_32,hn_31⟩:=hI
       try simp [h_8,h_16,h_17,q_32]
       rcases zad hp with ⟨h_33,hp⟩|⟨h_33,hp⟩
       ·try simp at h_33
        try simp [h_8,h_16,h_17,q_32,h_33]
        rcases zad hp with ⟨h_34,hp⟩|⟨h_34,hp⟩
        ·try simp at h_34
         cases hp
         try simp [h_8,h_16,h_17,q_32,h_33,h_34]
         refine zal ?_
         rw [X_29_]
         exact ⟨_,rfl,by simp [zac,zaa,h_8,h_16,h_17,q_32,h_33,h_34],NoBox.restrict (by intro k hk hb;simp at hk hb;simp [hk,hb,h_8,h_16,h_17,q_32,h_33,h_34,hn_31 k (by simp [hk,hb])])⟩
        ·try simp at h_34
         obtain ⟨e_35,h_36,hp⟩:=zab hp
         have b_37:=at_lo h_36
         have b_38:=at_hi h_36
         try simp at b_37 b_38
         have c_39:=seg_at' h_36 0 1 (by decide) (ds:=[.sc (.int .i64 e_35)]) rfl
         try simp at c_39
         obtain ⟨e_40,h_41,hp⟩:=zab hp
         have b_42:=at_lo h_41
         have b_43:=at_hi h_41
         try simp at b_42 b_43
         have c_44:=seg_at' h_41 0 5 (by decide) (ds:=[.sc (.int .i64 e_40.from_),.sc (.int .i64 e_40.to_),.sc (.int .i64 e_40.stmt.kind),.sc (.string e_40.stmt.a),.sc (.string e_40.stmt.b)]) rfl
         try simp at c_44
         have n_45:=hn_31 (1,14) (by simp)
         obtain ⟨e_46,h_47,hp⟩:=zab hp
         cases Option.some.inj (h_19.symm.trans h_47)
         have b_48:=at_lo h_19
         have b_49:=at_hi h_19
         try simp at b_48 b_49
         have c_50:=seg_at' h_19 1 2 (by decide) (ds:=[.sl e_18.heap.vars.length (encL e_18.heap.vars),.sl e_18.heap.next.length (encL e_18.heap.next)]) rfl
         try simp at c_50
         obtain ⟨y_51,h_52,hp⟩:=zab hp
         have c_53:=C50_eq h_52
         simp at c_53
         have n_54:=hn_31 (1,15) (by simp)
         try simp [h_8,h_16,h_17,q_32,h_33,h_34,b_37,b_38,c_39,b_42,b_43,c_44,n_45,b_48,b_49,c_50,c_53,n_54]
         rcases zad hp with ⟨h_55,hp⟩|⟨h_55,hp⟩
         ·try simp at h_55
          obtain ⟨y_56,h_57,hp⟩:=zab hp
          have c_58:=C150_eq h_57
          simp at c_58
          try simp [h_8,h_16,h_17,q_32,h_33,h_34,h_55,c_58]
          rcases zad hp with ⟨h_59,hp⟩|⟨h_59,hp⟩
          ·try simp at h_59
           obtain ⟨e_60,h_61,hp⟩:=zab hp
           cases Option.some.inj (h_36.symm.trans h_61)
           have b_62:=at_lo h_36
           have b_63:=at_hi h_36
           try simp at b_62 b_63
           have c_64:=seg_at' h_36 0 1 (by decide) (ds:=[.sc (.int .i64 e_35)]) rfl
           try simp at c_64
           obtain ⟨_,h_65,hp⟩:=zab hp
           have b_66:=room_ok h_65
           try simp at b_66
           cases hp
           try simp [h_8,h_16,h_17,q_32,h_33,h_34,h_55,h_59,b_62,b_63,c_64,b_66]
           refine zah ?_
           rw [I_28_]
           exact ⟨by simp [zac,zaa,h_8,h_16,h_17,q_32,h_33,h_34,h_55,h_59,b_62,b_63,c_64,b_66],NoBox.restrict (by intro k hk hb;simp at hk hb;simp [hk,hb,h_8,h_16,h_17,q_32,h_33,h_34,h_55,h_59,b_62,b_63,c_64,b_66,hn_31 k (by simp [hk,hb])])⟩
          ·try simp at h_59
           cases hp
           try simp [h_8,h_16,h_17,q_32,h_33,h_34,h_55,h_59]
           refine zah ?_
           rw [I_28_]
           exact ⟨by simp [zac,zaa,h_8,h_16,h_17,q_32,h_33,h_34,h_55,h_59],NoBox.restrict (by intro k hk hb;simp at hk hb;simp [hk,hb,h_8,h_16,h_17,q_32,h_33,h_34,h_55,h_59,hn_31 k (by simp [hk,hb])])⟩
         ·try simp at h_55
          cases hp
          try simp [h_8,h_16,h_17,q_32,h_33,h_34,h_55]
          refine zah ?_
          rw [I_28_]
          exact ⟨by simp [zac,zaa,h_8,h_16,h_17,q_32,h_33,h_34,h_55],NoBox.restrict (by intro k hk hb;simp at hk hb;simp [hk,hb,h_8,h_16,h_17,q_32,h_33,h_34,h_55,hn_31 k (by simp [hk,hb])])⟩
       ·try simp at h_33
        cases hp
        try simp [h_8,h_16,h_17,q_32,h_33]
        refine zal ?_
        rw [X_29_]
        exact ⟨_,rfl,by simp [zac,zaa,h_8,h_16,h_17,q_32,h_33],NoBox.restrict (by intro k hk hb;simp at hk hb;simp [hk,hb,h_8,h_16,h_17,q_32,h_33,hn_31 k (by simp [hk,hb])])⟩
      ·intro out hX
       rw [X_29_] at hX
       obtain ⟨σ_69,rfl,q_71,hn_70⟩:=hX
       cases hp
       try simp [h_8,h_16,h_17,q_71]
       refine zah ?_
       rw [I_11_]
       exact ⟨by simp [zac,zaa,h_8,h_16,h_17,q_71],NoBox.restrict (by intro k hk hb;simp at hk hb;simp [hk,hb,h_8,h_16,h_17,q_71,hn_70 k (by simp [hk,hb])])⟩
    ·try simp at h_16
     cases hp
     try simp [h_8,q_15,h_16]
     refine zal ?_
     rw [X_12_]
     exact ⟨_,rfl,by simp [zac,zaa,h_8,q_15,h_16],NoBox.restrict (by intro k hk hb;simp at hk hb;simp [hk,hb,h_8,q_15,h_16,hn_14 k (by simp [hk,hb])])⟩
   ·intro out hX
    rw [X_12_] at hX
    obtain ⟨σ_74,rfl,q_76,hn_75⟩:=hX
    try simp [h_8,q_76]
    rcases zad hp with ⟨h_77,hp⟩|⟨h_77,hp⟩
    ·try simp at h_77
     cases hp
     try simp [h_8,q_76,h_77]
     refine zah ?_
     rw [I_3_]
     exact ⟨by simp [zac,zaa,h_8,q_76,h_77],NoBox.restrict (by intro k hk hb;simp at hk hb;simp [hk,hb,h_8,q_76,h_77,hn_75 k (by simp [hk,hb])])⟩
    ·try simp at h_77
     cases hp
     try simp [h_8,q_76,h_77]
     refine zao ?_
     rw [X_4_]
     exact ⟨_,rfl,by simp [zac,zaa,h_8,q_76,h_77],NoBox.restrict (by intro k hk hb;simp at hk hb;simp [hk,hb,h_8,q_76,h_77,hn_75 k (by simp [hk,hb])])⟩
  ·try simp at h_8
   cases hp
   try simp [q_7,h_8]
   refine zal ?_
   rw [X_4_]
   exact ⟨_,rfl,by simp [zac,zaa,q_7,h_8],NoBox.restrict (by intro k hk hb;simp at hk hb;simp [hk,hb,q_7,h_8,hn_6 k (by simp [hk,hb])])⟩
 ·intro out hX
  rw [X_4_] at hX
  rcases r_78 with r_78 | r_78
  ·simp only [Sum.elim_inl,Sum.elim_inr] at hX hp
   obtain ⟨σ_80,rfl,q_82,hn_81⟩:=hX
   cases hp
   simp [Goal,FnEnd,retR,rsrc,RSrc.val,nodupR,nodup,tupPart,q_82]
  ·simp only [Sum.elim_inl,Sum.elim_inr] at hX hp
   obtain ⟨σ_83,rfl,q_85,hn_84⟩:=hX
   obtain ⟨e_86,h_87,hp⟩:=zab hp
   have b_88:=at_lo h_87
   have b_89:=at_hi h_87
   try simp at b_88 b_89
   have c_90:=seg_at' h_87 1 2 (by decide) (ds:=[.sl e_86.heap.vars.length (encL e_86.heap.vars),.sl e_86.heap.next.length (encL e_86.heap.next)]) rfl
   try simp at c_90
   obtain ⟨y_91,h_92,hp⟩:=zab hp
   have c_93:=C48_eq h_92
   simp at c_93
   cases hp
   simp [Goal,FnEnd,retR,rsrc,RSrc.val,nodupR,nodup,tupPart,q_85,b_88,b_89,c_90,c_93]
theorem pc121:PC Tryz.prog 121 C121:=pc_of (g:=g121) (zaj _ g121_s.2.1 ⟨pc48,pc50,pc63,pc150,trivial⟩) (ent Tryz.func121) fun x y h=>w121 h

def C71:List AV→Option AV:=specP (X:=TProgram × (List THeap) × Int × Int × Unit) fun x=>spec_l27Find x.1 x.2.1 x.2.2.1 x.2.2.2.1
theorem C71_eq {p_ start edge want} {y} (h:spec_l27Find p_ start edge want=some y):C71 [av .shr p_,av .shr start,av .shr edge,av .shr want]=some (Res.res y):=zai (x:=(p_,start,edge,want,())) h
def g71:Cfg:={ P:=Tryz.prog,take:=[(71,18),(71,46),(71,92),(71,102)],keep:=[((71,5),{ hd:=[1,2,3,4,8,10,12],bx:=[15,17],ex:=[8],rt:=[8,9] }),((71,9),{ hd:=[1,2,3,4,8,10,12,13,14],bx:=[15,17],ex:=[1,2,3,4,8,10,12],rt:=[8,9] })],gho:=[],ctx:=[(29,C29),(50,C50),(63,C63),(65,C65),(121,C121),(122,C122)] }
@[simp] theorem g71_s:type_of% (cfg_s (g:=g71) rfl):=cfg_s rfl
theorem w71 {p_ start edge want} {y} (hp:spec_l27Find p_ start edge want=some y):∃ m,callo g71 0 71 [av .shr p_,av .shr start,av .shr edge,av .shr want] mem0=some (Res.res y,m):=by
 refine st0 [.cell 8 65,.tmp 9] Tryz.func71 ?_
 unfold spec_l27Find at hp
 obtain ⟨y_1,h_2,hp⟩:=zab hp
 have c_3:=C29_eq h_2
 simp at c_3
 simp [Tryz.f71,c_3]
 rcases zad hp with ⟨h_4,hp⟩|⟨h_4,hp⟩
 ·try simp at h_4
  try simp [h_4]
  obtain ⟨r_96,h_97,hp⟩:=zab hp
  obtain ⟨I_7,I_7_⟩:=exV fun (s_5:Int) (σ:St)=>(σ.env 1=uL .shr start∧σ.env 2=uI edge∧σ.env 3=uI want∧σ.env 4=uP (1,4)∧σ.env 8=uP (1,8)∧σ.env 10=uL .own y_1.1∧σ.env 12=uI s_5∧σ.mem (1,4)=some [cL .shr p_.vars,cI p_.points,cL .shr p_.edges]∧σ.mem (1,8)=some [.l .own 0 [],.l .own 0 [],.l .own 0 [],cI 0])∧NoBox [(1,4),(1,8)] σ.mem
  obtain ⟨X_8,X_8_⟩:=exV fun (r_96:(Bool × (List Int) × (List Int) × (List Int) × Int) ⊕ (Unit)) (out:Out)=>Sum.elim (fun r_96=>∃ σ:St,out=.ret σ∧(σ.env 8=uP (1,8)∧σ.env 9=uB r_96.1∧σ.mem (1,4)=some [cL .shr p_.vars,cI p_.points,cL .shr p_.edges]∧σ.mem (1,8)=some [cL .own r_96.2.1,cL .own r_96.2.2.1,cL .own r_96.2.2.2.1,cI r_96.2.2.2.2])∧NoBox [(1,4),(1,8)] σ.mem) (fun r_96=>∃ σ:St,out=.exit 0 σ∧(σ.env 8=uP (1,8)∧σ.mem (1,4)=some [cL .shr p_.vars,cI p_.points,cL .shr p_.edges]∧σ.mem (1,8)=some [.l .own 0 [],.l .own 0 [],.l .own 0 [],cI 0])∧NoBox [(1,4),(1,8)] σ.mem) r_96
  refine loopP ({ hd:=[1,2,3,4,8,10,12],bx:=[15,17],ex:=[8],rt:=[8,9] }) I_7 X_8 h_97 (by exact rfl) ?_ ?_ ?_
  ·rw [I_7_]
   exact ⟨by simp [zac,zaa,h_4],NoBox.restrict (by intro k hk hb;simp at hk hb;simp [hk,hb,h_4])⟩
  ·intro s_5 σ_9 a_6 hI hp
   rw [I_7_] at hI
   obtain ⟨q_11,hn_10⟩:=hI
   try simp [h_4,q_11]
   rcases zad hp with ⟨h_12,hp⟩|⟨h_12,hp⟩
   ·try simp at h_12
    obtain ⟨e_13,h_14,hp⟩:=zab hp
    have b_15:=at_lo h_14
    have b_16:=at_hi h_14
    try simp at b_15 b_16
    have c_17:=seg_at' h_14 0 1 (by decide) (ds:=[.sc (.int .i64 e_13.point)]) rfl
    try simp at c_17
    obtain ⟨y_18,h_19,hp⟩:=zab hp
    have c_20:=C63_eq h_19
    simp at c_20
    try simp [h_4,q_11,h_12,b_15,b_16,c_17,c_20]
    obtain ⟨r_88,h_89,hp⟩:=zab hp
    obtain ⟨I_23,I_23_⟩:=exV fun (s_21:Int) (σ:St)=>(σ.env 1=uL .shr start∧σ.env 2=uI edge∧σ.env 3=uI want∧σ.env 4=uP (1,4)∧σ.env 8=uP (1,8)∧σ.env 10=uL .own y_1.1∧σ.env 12=uI s_5∧σ.env 13=uL .own y_18∧σ.env 14=uI s_21∧σ.mem (1,4)=some [cL .shr p_.vars,cI p_.points,cL .shr p_.edges]∧σ.mem (1,8)=some [.l .own 0 [],.l .own 0 [],.l .own 0 [],cI 0])∧NoBox [(1,4),(1,8)] σ.mem
    obtain ⟨X_24,X_24_⟩:=exV fun (r_88:(Bool × (List Int) × (List Int) × (List Int) × Int) ⊕ (Unit)) (out:Out)=>Sum.elim (fun r_88=>∃ σ:St,out=.ret σ∧(σ.env 8=uP (1,8)∧σ.env 9=uB r_88.1∧σ.mem (1,4)=some [cL .shr p_.vars,cI p_.points,cL .shr p_.edges]∧σ.mem (1,8)=some [cL .own r_88.2.1,cL .own r_88.2.2.1,cL .own r_88.2.2.2.1,cI r_88.2.2.2.2])∧NoBox [(1,4),(1,8)] σ.mem) (fun r_88=>∃ σ:St,out=.exit 2 σ∧(σ.env 1=uL .shr start∧σ.env 2=uI edge∧σ.env 3=uI want∧σ.env 4=uP (1,4)∧σ.env 8=uP (1,8)∧σ.env 10=uL .own y_1.1∧σ.env 12=uI s_5∧σ.mem (1,4)=some [cL .shr p_.vars,cI p_.points,cL .shr p_.edges]∧σ.mem (1,8)=some [.l .own 0 [],.l .own 0 [],.l .own 0 [],cI 0])∧NoBox [(1,4),(1,8)] σ.mem) r_88
    refine loopP ({ hd:=[1,2,3,4,8,10,12,13,14],bx:=[15,17],ex:=[1,2,3,4,8,10,12],rt:=[8,9] }) I_23 X_24 h_89 (by exact rfl) ?_ ?_ ?_
    ·rw [I_23_]
     exact ⟨by simp [zac,zaa,h_4,q_11,h_12],NoBox.restrict (by intro k hk hb;simp at hk hb;simp [hk,hb,h_4,q_11,h_12,hn_10 k (by simp [hk,hb])])⟩
    ·intro s_21 σ_25 a_22 hI hp
     rw [I_23_] at hI
     obtain ⟨q_27,hn_26⟩:=hI
     try simp [h_4,h_12,q_27]
     rcases zad hp with ⟨h_28,hp⟩|⟨h_28,hp⟩
     ·try simp at h_28
      obtain ⟨e_29,h_30,hp⟩:=zab hp
      have b_31:=at_lo h_30
      have b_32:=at_hi h_30
      try simp at b_31 b_32
      have c_33:=seg_at' h_30 0 1 (by decide) (ds:=[.sc (.int .i64 e_29)]) rfl
      try simp at c_33
      obtain ⟨e_34,h_35,hp⟩:=zab hp
      have b_36:=at_lo h_35
      have b_37:=at_hi h_35
      try simp at b_36 b_37
      have c_38:=seg_at' h_35 2 3 (by decide) (ds:=[.sc (.int .i64 e_34.stmt.kind),.sc (.string e_34.stmt.a),.sc (.string e_34.stmt.b)]) rfl
      try simp at c_38
      obtain ⟨e_39,h_40,hp⟩:=zab hp
      cases Option.some.inj (h_14.symm.trans h_40)
      have b_41:=at_lo h_14
      have b_42:=at_hi h_14
      try simp at b_41 b_42
      have c_43:=seg_at' h_14 1 2 (by decide) (ds:=[.sl e_13.heap.vars.length (encL e_13.heap.vars),.sl e_13.heap.next.length (encL e_13.heap.next)]) rfl
      try simp at c_43
      obtain ⟨y_44,h_45,hp⟩:=zab hp
      have c_46:=C50_eq h_45
      simp at c_46
      have n_47:=hn_26 (1,15) (by simp)
      obtain ⟨y_48,h_49,hp⟩:=zab hp
      have c_50:=C65_eq h_49
      simp at c_50
      try simp [h_4,h_12,q_27,h_28,b_31,b_32,c_33,b_36,b_37,c_38,b_41,b_42,c_43,c_46,n_47,c_50]
      rcases zad hp with ⟨h_51,hp⟩|⟨h_51,hp⟩
      ·try simp at h_51
       try simp [h_4,h_12,q_27,h_28,h_51]
       rcases zad hp with ⟨h_52,hp⟩|⟨h_52,hp⟩
       ·try simp at h_52
        obtain ⟨y_53,h_54,hp⟩:=zab hp
        have c_55:=C122_eq h_54
        simp at c_55
        obtain ⟨y_56,h_57,hp⟩:=zab hp
        have c_58:=C121_eq h_57
        simp at c_58
        have n_59:=hn_26 (1,17) (by simp)
        obtain ⟨e_60,h_61,hp⟩:=zab hp
        cases Option.some.inj (h_30.symm.trans h_61)
        have b_62:=at_lo h_30
        have b_63:=at_hi h_30
        try simp at b_62 b_63
        have c_64:=seg_at' h_30 0 1 (by decide) (ds:=[.sc (.int .i64 e_29)]) rfl
        try simp at c_64
        obtain ⟨_,h_65,hp⟩:=zab hp
        have b_66:=room_ok h_65
        try simp at b_66
        cases hp
        try simp [h_4,h_12,q_27,h_28,h_51,h_52,c_55,c_58,n_59,b_62,b_63,c_64,b_66]
        refine zao ?_
        rw [X_24_]
        exact ⟨_,rfl,by simp [zac,zaa,h_4,h_12,q_27,h_28,h_51,h_52,c_55,c_58,n_59,b_62,b_63,c_64,b_66],NoBox.restrict (by intro k hk hb;simp at hk hb;simp [hk,hb,h_4,h_12,q_27,h_28,h_51,h_52,c_55,c_58,n_59,b_62,b_63,c_64,b_66,hn_26 k (by simp [hk,hb])])⟩
       ·try simp at h_52
        obtain ⟨e_67,h_68,hp⟩:=zab hp
        cases Option.some.inj (h_30.symm.trans h_68)
        have b_69:=at_lo h_30
        have b_70:=at_hi h_30
        try simp at b_69 b_70
        have c_71:=seg_at' h_30 0 1 (by decide) (ds:=[.sc (.int .i64 e_29)]) rfl
        try simp at c_71
        try simp [h_4,h_12,q_27,h_28,h_51,h_52,b_69,b_70,c_71]
        rcases zad hp with ⟨h_72,hp⟩|⟨h_72,hp⟩
        ·try simp at h_72
         try simp [h_4,h_12,q_27,h_28,h_51,h_52,h_72]
         rcases zad hp with ⟨h_73,hp⟩|⟨h_73,hp⟩
         ·try simp at h_73
          obtain ⟨y_74,h_75,hp⟩:=zab hp
          have c_76:=C122_eq h_75
          simp at c_76
          obtain ⟨y_77,h_78,hp⟩:=zab hp
          have c_79:=C121_eq h_78
          simp at c_79
          have n_80:=hn_26 (1,17) (by simp)
          obtain ⟨e_81,h_82,hp⟩:=zab hp
          cases Option.some.inj (h_30.symm.trans h_82)
          have b_83:=at_lo h_30
          have b_84:=at_hi h_30
          try simp at b_83 b_84
          have c_85:=seg_at' h_30 0 1 (by decide) (ds:=[.sc (.int .i64 e_29)]) rfl
          try simp at c_85
          obtain ⟨_,h_86,hp⟩:=zab hp
          have b_87:=room_ok h_86
          try simp at b_87
          cases hp
          try simp [h_4,h_12,q_27,h_28,h_51,h_52,h_72,h_73,c_76,c_79,n_80,b_83,b_84,c_85,b_87]
          refine zao ?_
          rw [X_24_]
          exact ⟨_,rfl,by simp [zac,zaa,h_4,h_12,q_27,h_28,h_51,h_52,h_72,h_73,c_76,c_79,n_80,b_83,b_84,c_85,b_87],NoBox.restrict (by intro k hk hb;simp at hk hb;simp [hk,hb,h_4,h_12,q_27,h_28,h_51,h_52,h_72,h_73,c_76,c_79,n_80,b_83,b_84,c_85,b_87,hn_26 k (by simp [hk,hb])])⟩
         ·try simp at h_73
          cases hp
          try simp [h_4,h_12,q_27,h_28,h_51,h_52,h_72,h_73]
          refine zah ?_
          rw [I_23_]
          exact ⟨by simp [zac,zaa,h_4,h_12,q_27,h_28,h_51,h_52,h_72,h_73],NoBox.restrict (by intro k hk hb;simp at hk hb;simp [hk,hb,h_4,h_12,q_27,h_28,h_51,h_52,h_72,h_73,hn_26 k (by simp [hk,hb])])⟩
        ·try simp at h_72
         cases hp
         try simp [h_4,h_12,q_27,h_28,h_51,h_52,h_72]
         refine zah ?_
         rw [I_23_]
         exact ⟨by simp [zac,zaa,h_4,h_12,q_27,h_28,h_51,h_52,h_72],NoBox.restrict (by intro k hk hb;simp at hk hb;simp [hk,hb,h_4,h_12,q_27,h_28,h_51,h_52,h_72,hn_26 k (by simp [hk,hb])])⟩
      ·try simp at h_51
       cases hp
       try simp [h_4,h_12,q_27,h_28,h_51]
       refine zah ?_
       rw [I_23_]
       exact ⟨by simp [zac,zaa,h_4,h_12,q_27,h_28,h_51],NoBox.restrict (by intro k hk hb;simp at hk hb;simp [hk,hb,h_4,h_12,q_27,h_28,h_51,hn_26 k (by simp [hk,hb])])⟩
     ·try simp at h_28
      cases hp
      try simp [h_4,h_12,q_27,h_28]
      refine zal ?_
      rw [X_24_]
      exact ⟨_,rfl,by simp [zac,zaa,h_4,h_12,q_27,h_28],NoBox.restrict (by intro k hk hb;simp at hk hb;simp [hk,hb,h_4,h_12,q_27,h_28,hn_26 k (by simp [hk,hb])])⟩
    ·intro out hX
     rw [X_24_] at hX
     rcases r_88 with r_88 | r_88
     ·simp only [Sum.elim_inl,Sum.elim_inr] at hX hp
      obtain ⟨σ_90,rfl,q_92,hn_91⟩:=hX
      cases hp
      try simp [h_4,h_12,q_92]
      refine zao ?_
      rw [X_8_]
      exact ⟨_,rfl,by simp [zac,zaa,h_4,h_12,q_92],NoBox.restrict (by intro k hk hb;simp at hk hb;simp [hk,hb,h_4,h_12,q_92,hn_91 k (by simp [hk,hb])])⟩
     ·simp only [Sum.elim_inl,Sum.elim_inr] at hX hp
      obtain ⟨σ_93,rfl,q_95,hn_94⟩:=hX
      cases hp
      try simp [h_4,h_12,q_95]
      refine zah ?_
      rw [I_7_]
      exact ⟨by simp [zac,zaa,h_4,h_12,q_95],NoBox.restrict (by intro k hk hb;simp at hk hb;simp [hk,hb,h_4,h_12,q_95,hn_94 k (by simp [hk,hb])])⟩
   ·try simp at h_12
    cases hp
    try simp [h_4,q_11,h_12]
    refine zal ?_
    rw [X_8_]
    exact ⟨_,rfl,by simp [zac,zaa,h_4,q_11,h_12],NoBox.restrict (by intro k hk hb;simp at hk hb;simp [hk,hb,h_4,q_11,h_12,hn_10 k (by simp [hk,hb])])⟩
  ·intro out hX
   rw [X_8_] at hX
   rcases r_96 with r_96 | r_96
   ·simp only [Sum.elim_inl,Sum.elim_inr] at hX hp
    obtain ⟨σ_98,rfl,q_100,hn_99⟩:=hX
    cases hp
    simp [Goal,FnEnd,retR,rsrc,RSrc.val,nodupR,nodup,tupPart,h_4,q_100]
   ·simp only [Sum.elim_inl,Sum.elim_inr] at hX hp
    obtain ⟨σ_101,rfl,q_103,hn_102⟩:=hX
    cases hp
    simp [Goal,FnEnd,retR,rsrc,RSrc.val,nodupR,nodup,tupPart,h_4,q_103]
 ·try simp at h_4
  cases hp
  simp [Goal,FnEnd,retR,rsrc,RSrc.val,nodupR,nodup,tupPart,h_4]
theorem pc71:PC Tryz.prog 71 C71:=pc_of (g:=g71) (zaj _ g71_s.2.1 ⟨pc29,pc50,pc63,pc65,pc121,pc122,trivial⟩) (ent Tryz.func71) fun x y h=>w71 h
end Go.Proofs

