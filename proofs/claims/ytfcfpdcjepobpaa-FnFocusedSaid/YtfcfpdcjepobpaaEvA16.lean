import Derived.Test.YtfcfpdcjepobpaaEvA15
set_option linter.unusedSimpArgs false
set_option linter.unusedVariables false
set_option linter.unnecessarySimpa false
noncomputable section
set_option maxHeartbeats 4000000
set_option maxRecDepth 100000
namespace Go.Proofs
open Go.Ev
def C11:List AV→Option AV:=specP (X:=TStructure × TStructure × Unit) fun x=>zbb x.1 x.2.1
theorem C11_eq {a_ b_} {y} (h:zbb a_ b_=some y):C11 [av .shr a_,av .shr b_]=some (Res.res y):=zai (x:=(a_,b_,())) h
def g11:Cfg:={ P:=Try.prog,take:=[],keep:=[((11,4),{ hd:=[2,3,5],bx:=[],ex:=[],rt:=[4] })],gho:=[],ctx:=[(36,C36),(37,C37)] }
@[simp] theorem g11_s:type_of% (cfg_s (g:=g11) rfl):=cfg_s rfl
theorem w11 {a_ b_} {y} (hp:zbb a_ b_=some y):∃ m,callo g11 0 11 [av .shr a_,av .shr b_] mem0=some (Res.res y,m):=by
 refine st0 [.tmp 4] Try.func11 ?_
 unfold zbb at hp
 simp [Try.f11]
 rcases zad hp with ⟨h_1,hp⟩|⟨h_1,hp⟩
 ·try simp at h_1
  cases hp
  simp [Goal,FnEnd,h_1]
 ·try simp at h_1
  obtain ⟨y_2,h_3,hp⟩:=zaa hp
  have c_4:=C36_eq h_3
  simp at c_4
  try simp [h_1,c_4]
  rcases zad hp with ⟨h_5,hp⟩|⟨h_5,hp⟩
  ·try simp at h_5
   try simp [h_1,h_5]
   obtain ⟨r_28,h_29,hp⟩:=zaa hp
   obtain ⟨I_8,I_8_⟩:=exV fun (s_6:Int) (σ:St)=>(σ.env 2=uP (1,2)∧σ.env 3=uP (1,3)∧σ.env 5=uI s_6∧σ.mem (1,2)=some [cL .shr a_.nodes,cL .shr a_.next]∧σ.mem (1,3)=some [cL .shr b_.nodes,cL .shr b_.next])∧NoBox [(1,2),(1,3)] σ.mem
   obtain ⟨X_9,X_9_⟩:=exV fun (r_28:(Unit) ⊕ (Unit)) (out:Out)=>Sum.elim (fun r_28=>∃ σ:St,out=.ret σ∧(σ.env 4=uB false∧σ.mem (1,2)=some [cL .shr a_.nodes,cL .shr a_.next]∧σ.mem (1,3)=some [cL .shr b_.nodes,cL .shr b_.next])∧NoBox [(1,2),(1,3)] σ.mem) (fun r_28=>∃ σ:St,out=.exit 0 σ∧(σ.mem (1,2)=some [cL .shr a_.nodes,cL .shr a_.next]∧σ.mem (1,3)=some [cL .shr b_.nodes,cL .shr b_.next])∧NoBox [(1,2),(1,3)] σ.mem) r_28
   refine loopP ({ hd:=[2,3,5],bx:=[],ex:=[],rt:=[4] }) I_8 X_9 h_29 (by exact rfl) ?_ ?_ ?_
   ·rw [I_8_]
    exact ⟨by simp [zac,zab,h_1,h_5],NoBox.restrict (by intro k hk hb;simp at hk hb;simp [hk,hb,h_1,h_5])⟩
   ·intro s_6 σ_10 a_7 hI hp
    rw [I_8_] at hI
    obtain ⟨q_12,hn_11⟩:=hI
    try simp [h_1,h_5,q_12]
    rcases zad hp with ⟨h_13,hp⟩|⟨h_13,hp⟩
    ·try simp at h_13
     obtain ⟨e_14,h_15,hp⟩:=zaa hp
     have b_16:=at_lo h_15
     have b_17:=at_hi h_15
     try simp at b_16 b_17
     have c_18:=seg_at' h_15 0 4 (by decide) (ds:=[.sl e_14.vars.length (encL e_14.vars),.sl e_14.reach.length (encL e_14.reach),.sc (.int .i64 e_14.shared),.sc (.int .i64 e_14.many)]) rfl
     try simp at c_18
     obtain ⟨e_19,h_20,hp⟩:=zaa hp
     have b_21:=at_lo h_20
     have b_22:=at_hi h_20
     try simp at b_21 b_22
     have c_23:=seg_at' h_20 0 4 (by decide) (ds:=[.sl e_19.vars.length (encL e_19.vars),.sl e_19.reach.length (encL e_19.reach),.sc (.int .i64 e_19.shared),.sc (.int .i64 e_19.many)]) rfl
     try simp at c_23
     obtain ⟨y_24,h_25,hp⟩:=zaa hp
     have c_26:=C37_eq h_25
     simp at c_26
     try simp [h_1,h_5,q_12,h_13,b_16,b_17,c_18,b_21,b_22,c_23,c_26]
     rcases zad hp with ⟨h_27,hp⟩|⟨h_27,hp⟩
     ·try simp at h_27
      cases hp
      try simp [h_1,h_5,q_12,h_13,h_27]
      refine zae ?_
      rw [I_8_]
      exact ⟨by simp [zac,zab,h_1,h_5,q_12,h_13,h_27],NoBox.restrict (by intro k hk hb;simp at hk hb;simp [hk,hb,h_1,h_5,q_12,h_13,h_27,hn_11 k (by simp [hk,hb])])⟩
     ·try simp at h_27
      cases hp
      try simp [h_1,h_5,q_12,h_13,h_27]
      refine zaq ?_
      rw [X_9_]
      exact ⟨_,rfl,by simp [zac,zab,h_1,h_5,q_12,h_13,h_27],NoBox.restrict (by intro k hk hb;simp at hk hb;simp [hk,hb,h_1,h_5,q_12,h_13,h_27,hn_11 k (by simp [hk,hb])])⟩
    ·try simp at h_13
     cases hp
     try simp [h_1,h_5,q_12,h_13]
     refine zag ?_
     rw [X_9_]
     exact ⟨_,rfl,by simp [zac,zab,h_1,h_5,q_12,h_13],NoBox.restrict (by intro k hk hb;simp at hk hb;simp [hk,hb,h_1,h_5,q_12,h_13,hn_11 k (by simp [hk,hb])])⟩
   ·intro out hX
    rw [X_9_] at hX
    rcases r_28 with r_28 | r_28
    ·simp only [Sum.elim_inl,Sum.elim_inr] at hX hp
     obtain ⟨σ_30,rfl,q_32,hn_31⟩:=hX
     cases hp
     simp [Goal,FnEnd,h_1,h_5,q_32]
    ·simp only [Sum.elim_inl,Sum.elim_inr] at hX hp
     obtain ⟨σ_33,rfl,q_35,hn_34⟩:=hX
     cases hp
     simp [Goal,FnEnd,h_1,h_5,q_35]
  ·try simp at h_5
   cases hp
   simp [Goal,FnEnd,h_1,h_5]
theorem pc11:PC Try.prog 11 C11:=pc_of (g:=g11) (zah _ g11_s.2.1 ⟨pc36,pc37,trivial⟩) (ent Try.func11) fun x y h=>w11 h

def C82:List AV→Option AV:=specP (X:=Int × Int × Unit) fun x=>zbr x.1 x.2.1
theorem C82_eq {a_ b_} {y} (h:zbr a_ b_=some y):C82 [av .shr a_,av .shr b_]=some (Res.res y):=zai (x:=(a_,b_,())) h
def g82:Cfg:={ P:=Try.prog,take:=[],keep:=[],gho:=[],ctx:=[(39,C39)] }
@[simp] theorem g82_s:type_of% (cfg_s (g:=g82) rfl):=cfg_s rfl
theorem w82 {a_ b_} {y} (hp:zbr a_ b_=some y):∃ m,callo g82 0 82 [av .shr a_,av .shr b_] mem0=some (Res.res y,m):=by
 refine st0 [.tmp 4] Try.func82 ?_
 unfold zbr at hp
 obtain ⟨y_1,h_2,hp⟩:=zaa hp
 have c_3:=zob h_2
 simp at c_3
 simp [Try.f82,c_3]
 rcases zad hp with ⟨h_4,hp⟩|⟨h_4,hp⟩
 ·try simp at h_4
  obtain ⟨y_5,h_6,hp⟩:=zaa hp
  have c_7:=zob h_6
  simp at c_7
  try simp [h_4,c_7]
  rcases zad hp with ⟨h_8,hp⟩|⟨h_8,hp⟩
  ·try simp at h_8
   try simp [h_4,h_8]
   rcases zad hp with ⟨h_9,hp⟩|⟨h_9,hp⟩
   ·try simp at h_9
    cases hp
    simp [Goal,FnEnd,h_4,h_8,h_9]
   ·try simp at h_9
    cases hp
    simp [Goal,FnEnd,h_4,h_8,h_9]
  ·try simp at h_8
   cases hp
   simp [Goal,FnEnd,h_4,h_8]
 ·try simp at h_4
  cases hp
  simp [Goal,FnEnd,h_4]
theorem pc82:PC Try.prog 82 C82:=pc_of (g:=g82) (zah _ g82_s.2.1 ⟨pc39,trivial⟩) (ent Try.func82) fun x y h=>w82 h

def C86:List AV→Option AV:=specP (X:=(List Int) × (List Int) × Unit) fun x=>zdb x.1 x.2.1
theorem C86_eq {a_ b_} {y} (h:zdb a_ b_=some y):C86 [av .shr a_,av .shr b_]=some (Res.res y):=zai (x:=(a_,b_,())) h
def g86:Cfg:={ P:=Try.prog,take:=[],keep:=[((86,4),{ hd:=[0,1,5],bx:=[],ex:=[],rt:=[4] })],gho:=[],ctx:=[(82,C82)] }
@[simp] theorem g86_s:type_of% (cfg_s (g:=g86) rfl):=cfg_s rfl
theorem w86 {a_ b_} {y} (hp:zdb a_ b_=some y):∃ m,callo g86 0 86 [av .shr a_,av .shr b_] mem0=some (Res.res y,m):=by
 refine st0 [.tmp 4] Try.func86 ?_
 unfold zdb at hp
 simp [Try.f86]
 rcases zad hp with ⟨h_1,hp⟩|⟨h_1,hp⟩
 ·try simp at h_1
  cases hp
  simp [Goal,FnEnd,h_1]
 ·try simp at h_1
  try simp [h_1]
  obtain ⟨r_24,h_25,hp⟩:=zaa hp
  obtain ⟨I_4,I_4_⟩:=exV fun (s_2:Int) (σ:St)=>(σ.env 0=uL .shr a_∧σ.env 1=uL .shr b_∧σ.env 5=uI s_2)∧σ.mem=mem0
  obtain ⟨X_5,X_5_⟩:=exV fun (r_24:(Unit) ⊕ (Unit)) (out:Out)=>Sum.elim (fun r_24=>∃ σ:St,out=.ret σ∧σ.env 4=uB false∧σ.mem=mem0) (fun r_24=>∃ σ:St,out=.exit 0 σ∧σ.mem=mem0) r_24
  refine loopP ({ hd:=[0,1,5],bx:=[],ex:=[],rt:=[4] }) I_4 X_5 h_25 (by exact rfl) ?_ ?_ ?_
  ·rw [I_4_]
   exact ⟨by simp [zac,zab,h_1],by simp [zab,h_1]⟩
  ·intro s_2 σ_6 a_3 hI hp
   rw [I_4_] at hI
   obtain ⟨q_8,q_7⟩:=hI
   try simp [h_1,q_8,q_7]
   rcases zad hp with ⟨h_9,hp⟩|⟨h_9,hp⟩
   ·try simp at h_9
    obtain ⟨e_10,h_11,hp⟩:=zaa hp
    have b_12:=at_lo h_11
    have b_13:=at_hi h_11
    try simp at b_12 b_13
    have c_14:=seg_at' h_11 0 1 (by decide) (ds:=[.sc (.int .i64 e_10)]) rfl
    try simp at c_14
    obtain ⟨e_15,h_16,hp⟩:=zaa hp
    have b_17:=at_lo h_16
    have b_18:=at_hi h_16
    try simp at b_17 b_18
    have c_19:=seg_at' h_16 0 1 (by decide) (ds:=[.sc (.int .i64 e_15)]) rfl
    try simp at c_19
    obtain ⟨y_20,h_21,hp⟩:=zaa hp
    have c_22:=C82_eq h_21
    simp at c_22
    try simp [h_1,q_8,q_7,h_9,b_12,b_13,c_14,b_17,b_18,c_19,c_22]
    rcases zad hp with ⟨h_23,hp⟩|⟨h_23,hp⟩
    ·try simp at h_23
     cases hp
     try simp [h_1,q_8,q_7,h_9,h_23]
     refine zae ?_
     rw [I_4_]
     exact ⟨by simp [zac,zab,h_1,q_8,q_7,h_9,h_23],by simp [zab,h_1,q_8,q_7,h_9,h_23]⟩
    ·try simp at h_23
     cases hp
     try simp [h_1,q_8,q_7,h_9,h_23]
     refine zaq ?_
     rw [X_5_]
     exact ⟨_,rfl,by simp [zac,zab,h_1,q_8,q_7,h_9,h_23],by simp [zab,h_1,q_8,q_7,h_9,h_23]⟩
   ·try simp at h_9
    cases hp
    try simp [h_1,q_8,q_7,h_9]
    refine zag ?_
    rw [X_5_]
    exact ⟨_,rfl,by simp [zab,h_1,q_8,q_7,h_9]⟩
  ·intro out hX
   rw [X_5_] at hX
   rcases r_24 with r_24 | r_24
   ·simp only [Sum.elim_inl,Sum.elim_inr] at hX hp
    obtain ⟨σ_26,rfl,q_28,q_27⟩:=hX
    cases hp
    simp [Goal,FnEnd,h_1,q_28,q_27]
   ·simp only [Sum.elim_inl,Sum.elim_inr] at hX hp
    obtain ⟨σ_29,rfl,q_30⟩:=hX
    cases hp
    simp [Goal,FnEnd,h_1,q_30]
theorem pc86:PC Try.prog 86 C86:=pc_of (g:=g86) (zah _ g86_s.2.1 ⟨pc82,trivial⟩) (ent Try.func86) fun x y h=>w86 h

def C81:List AV→Option AV:=specP (X:=TNode × TNode × Unit) fun x=>zel x.1 x.2.1
theorem C81_eq {x_ y_} {y} (h:zel x_ y_=some y):C81 [av .shr x_,av .shr y_]=some (Res.res y):=zai (x:=(x_,y_,())) h
def g81:Cfg:={ P:=Try.prog,take:=[],keep:=[],gho:=[],ctx:=[(82,C82),(86,C86)] }
@[simp] theorem g81_s:type_of% (cfg_s (g:=g81) rfl):=cfg_s rfl
theorem w81 {x_ y_} {y} (hp:zel x_ y_=some y):∃ m,callo g81 0 81 [av .shr x_,av .shr y_] mem0=some (Res.res y,m):=by
 refine st0 [.tmp 4] Try.func81 ?_
 unfold zel at hp
 obtain ⟨y_1,h_2,hp⟩:=zaa hp
 have c_3:=C86_eq h_2
 simp at c_3
 simp [Try.f81,c_3]
 rcases zad hp with ⟨h_4,hp⟩|⟨h_4,hp⟩
 ·try simp at h_4
  obtain ⟨y_5,h_6,hp⟩:=zaa hp
  have c_7:=C86_eq h_6
  simp at c_7
  try simp [h_4,c_7]
  rcases zad hp with ⟨h_8,hp⟩|⟨h_8,hp⟩
  ·try simp at h_8
   obtain ⟨y_9,h_10,hp⟩:=zaa hp
   have c_11:=C82_eq h_10
   simp at c_11
   try simp [h_4,h_8,c_11]
   rcases zad hp with ⟨h_12,hp⟩|⟨h_12,hp⟩
   ·try simp at h_12
    obtain ⟨y_13,h_14,hp⟩:=zaa hp
    have c_15:=C82_eq h_14
    simp at c_15
    cases hp
    simp [Goal,FnEnd,h_4,h_8,h_12,c_15]
   ·try simp at h_12
    cases hp
    simp [Goal,FnEnd,h_4,h_8,h_12]
  ·try simp at h_8
   cases hp
   simp [Goal,FnEnd,h_4,h_8]
 ·try simp at h_4
  cases hp
  simp [Goal,FnEnd,h_4]
theorem pc81:PC Try.prog 81 C81:=pc_of (g:=g81) (zah _ g81_s.2.1 ⟨pc82,pc86,trivial⟩) (ent Try.func81) fun x y h=>w81 h

def C75:List AV→Option AV:=specP (X:=TStructure × TStructure × (List Int) × Unit) fun x=>zdc x.1 x.2.1 x.2.2.1
theorem C75_eq {s t to_} {y} (h:zdc s t to_=some y):C75 [av .shr s,av .shr t,av .shr to_]=some (Res.res y):=zai (x:=(s,t,to_,())) h
def g75:Cfg:={ P:=Try.prog,take:=[],keep:=[((75,5),{ hd:=[2,3,4,7,8],bx:=[],ex:=[],rt:=[6] })],gho:=[],ctx:=[(33,C33),(81,C81),(82,C82)] }
@[simp] theorem g75_s:type_of% (cfg_s (g:=g75) rfl):=cfg_s rfl
theorem w75 {s t to_} {y} (hp:zdc s t to_=some y):∃ m,callo g75 0 75 [av .shr s,av .shr t,av .shr to_] mem0=some (Res.res y,m):=by
 refine st0 [.tmp 6] Try.func75 ?_
 unfold zdc at hp
 obtain ⟨e_1,h_2,hp⟩:=zaa hp
 have b_3:=at_lo h_2
 have b_4:=at_hi h_2
 try simp at b_3 b_4
 have c_5:=seg_at' h_2 0 4 (by decide) (ds:=[.sl e_1.vars.length (encL e_1.vars),.sl e_1.reach.length (encL e_1.reach),.sc (.int .i64 e_1.shared),.sc (.int .i64 e_1.many)]) rfl
 try simp at c_5
 obtain ⟨e_6,h_7,hp⟩:=zaa hp
 have b_8:=at_lo h_7
 have b_9:=at_hi h_7
 try simp at b_8 b_9
 have c_10:=seg_at' h_7 0 1 (by decide) (ds:=[.sc (.int .i64 e_6)]) rfl
 try simp at c_10
 obtain ⟨e_11,h_12,hp⟩:=zaa hp
 have b_13:=at_lo h_12
 have b_14:=at_hi h_12
 try simp at b_13 b_14
 have c_15:=seg_at' h_12 0 4 (by decide) (ds:=[.sl e_11.vars.length (encL e_11.vars),.sl e_11.reach.length (encL e_11.reach),.sc (.int .i64 e_11.shared),.sc (.int .i64 e_11.many)]) rfl
 try simp at c_15
 obtain ⟨y_16,h_17,hp⟩:=zaa hp
 have c_18:=C81_eq h_17
 simp at c_18
 simp [Try.f75,b_3,b_4,c_5,b_8,b_9,c_10,b_13,b_14,c_15,c_18]
 rcases zad hp with ⟨h_19,hp⟩|⟨h_19,hp⟩
 ·try simp at h_19
  try simp [h_19]
  obtain ⟨r_91,h_92,hp⟩:=zaa hp
  obtain ⟨I_22,I_22_⟩:=exV fun (s_20:Int) (σ:St)=>(σ.env 2=uL .shr to_∧σ.env 3=uP (1,3)∧σ.env 4=uP (1,4)∧σ.env 7=uI (subI (to_.length:Int) 1)∧σ.env 8=uI s_20∧σ.mem (1,3)=some [cL .shr s.nodes,cL .shr s.next]∧σ.mem (1,4)=some [cL .shr t.nodes,cL .shr t.next])∧NoBox [(1,3),(1,4)] σ.mem
  obtain ⟨X_23,X_23_⟩:=exV fun (r_91:(Unit) ⊕ (Unit)) (out:Out)=>Sum.elim (fun r_91=>∃ σ:St,out=.ret σ∧(σ.env 6=uB false∧σ.mem (1,3)=some [cL .shr s.nodes,cL .shr s.next]∧σ.mem (1,4)=some [cL .shr t.nodes,cL .shr t.next])∧NoBox [(1,3),(1,4)] σ.mem) (fun r_91=>∃ σ:St,out=.exit 0 σ∧(σ.mem (1,3)=some [cL .shr s.nodes,cL .shr s.next]∧σ.mem (1,4)=some [cL .shr t.nodes,cL .shr t.next])∧NoBox [(1,3),(1,4)] σ.mem) r_91
  refine loopP ({ hd:=[2,3,4,7,8],bx:=[],ex:=[],rt:=[6] }) I_22 X_23 h_92 (by exact rfl) ?_ ?_ ?_
  ·rw [I_22_]
   exact ⟨by simp [zac,zab,h_19],NoBox.restrict (by intro k hk hb;simp at hk hb;simp [hk,hb,h_19])⟩
  ·intro s_20 σ_24 a_21 hI hp
   rw [I_22_] at hI
   obtain ⟨q_26,hn_25⟩:=hI
   try simp [h_19,q_26]
   rcases zad hp with ⟨h_27,hp⟩|⟨h_27,hp⟩
   ·try simp at h_27
    obtain ⟨y_28,h_29,hp⟩:=zaa hp
    have c_30:=zjl h_29
    simp at c_30
    obtain ⟨e_31,h_32,hp⟩:=zaa hp
    cases Option.some.inj (h_7.symm.trans h_32)
    have b_33:=at_lo h_7
    have b_34:=at_hi h_7
    try simp at b_33 b_34
    have c_35:=seg_at' h_7 0 1 (by decide) (ds:=[.sc (.int .i64 e_6)]) rfl
    try simp at c_35
    obtain ⟨e_36,h_37,hp⟩:=zaa hp
    have b_38:=at_lo h_37
    have b_39:=at_hi h_37
    try simp at b_38 b_39
    have c_40:=seg_at' h_37 0 1 (by decide) (ds:=[.sc (.int .i64 e_36)]) rfl
    try simp at c_40
    obtain ⟨y_41,h_42,hp⟩:=zaa hp
    have c_43:=zjl h_42
    simp at c_43
    obtain ⟨y_44,h_45,hp⟩:=zaa hp
    have c_46:=C82_eq h_45
    simp at c_46
    try simp [h_19,q_26,h_27,c_30,b_33,b_34,c_35,b_38,b_39,c_40,c_43,c_46]
    rcases zad hp with ⟨h_47,hp⟩|⟨h_47,hp⟩
    ·try simp at h_47
     obtain ⟨y_48,h_49,hp⟩:=zaa hp
     have c_50:=zjl h_49
     simp at c_50
     obtain ⟨e_51,h_52,hp⟩:=zaa hp
     cases Option.some.inj (h_37.symm.trans h_52)
     have b_53:=at_lo h_37
     have b_54:=at_hi h_37
     try simp at b_53 b_54
     have c_55:=seg_at' h_37 0 1 (by decide) (ds:=[.sc (.int .i64 e_36)]) rfl
     try simp at c_55
     obtain ⟨e_56,h_57,hp⟩:=zaa hp
     cases Option.some.inj (h_7.symm.trans h_57)
     have b_58:=at_lo h_7
     have b_59:=at_hi h_7
     try simp at b_58 b_59
     have c_60:=seg_at' h_7 0 1 (by decide) (ds:=[.sc (.int .i64 e_6)]) rfl
     try simp at c_60
     obtain ⟨y_61,h_62,hp⟩:=zaa hp
     have c_63:=zjl h_62
     simp at c_63
     obtain ⟨y_64,h_65,hp⟩:=zaa hp
     have c_66:=C82_eq h_65
     simp at c_66
     try simp [h_19,q_26,h_27,h_47,c_50,b_53,b_54,c_55,b_58,b_59,c_60,c_63,c_66]
     rcases zad hp with ⟨h_67,hp⟩|⟨h_67,hp⟩
     ·try simp at h_67
      try simp [h_19,q_26,h_27,h_47,h_67]
      rcases zad hp with ⟨h_68,hp⟩|⟨h_68,hp⟩
      ·try simp at h_68
       obtain ⟨e_69,h_70,hp⟩:=zaa hp
       cases Option.some.inj (h_37.symm.trans h_70)
       have b_71:=at_lo h_37
       have b_72:=at_hi h_37
       try simp at b_71 b_72
       have c_73:=seg_at' h_37 0 1 (by decide) (ds:=[.sc (.int .i64 e_36)]) rfl
       try simp at c_73
       obtain ⟨e_74,h_75,hp⟩:=zaa hp
       cases Option.some.inj (h_7.symm.trans h_75)
       have b_76:=at_lo h_7
       have b_77:=at_hi h_7
       try simp at b_76 b_77
       have c_78:=seg_at' h_7 0 1 (by decide) (ds:=[.sc (.int .i64 e_6)]) rfl
       try simp at c_78
       try simp [h_19,q_26,h_27,h_47,h_67,h_68,b_71,b_72,c_73,b_76,b_77,c_78]
       rcases zad hp with ⟨h_79,hp⟩|⟨h_79,hp⟩
       ·try simp at h_79
        obtain ⟨e_80,h_81,hp⟩:=zaa hp
        cases Option.some.inj (h_7.symm.trans h_81)
        have b_82:=at_lo h_7
        have b_83:=at_hi h_7
        try simp at b_82 b_83
        have c_84:=seg_at' h_7 0 1 (by decide) (ds:=[.sc (.int .i64 e_6)]) rfl
        try simp at c_84
        obtain ⟨e_85,h_86,hp⟩:=zaa hp
        cases Option.some.inj (h_12.symm.trans h_86)
        have b_87:=at_lo h_12
        have b_88:=at_hi h_12
        try simp at b_87 b_88
        have c_89:=seg_at' h_12 3 1 (by decide) (ds:=[.sc (.int .i64 e_11.many)]) rfl
        try simp at c_89
        try simp [h_19,q_26,h_27,h_47,h_67,h_68,h_79,b_82,b_83,c_84,b_87,b_88,c_89]
        rcases zad hp with ⟨h_90,hp⟩|⟨h_90,hp⟩
        ·try simp at h_90
         cases hp
         try simp [h_19,q_26,h_27,h_47,h_67,h_68,h_79,h_90]
         refine zaq ?_
         rw [X_23_]
         exact ⟨_,rfl,by simp [zac,zab,h_19,q_26,h_27,h_47,h_67,h_68,h_79,h_90],NoBox.restrict (by intro k hk hb;simp at hk hb;simp [hk,hb,h_19,q_26,h_27,h_47,h_67,h_68,h_79,h_90,hn_25 k (by simp [hk,hb])])⟩
        ·try simp at h_90
         cases hp
         try simp [h_19,q_26,h_27,h_47,h_67,h_68,h_79,h_90]
         refine zae ?_
         rw [I_22_]
         exact ⟨by simp [zac,zab,h_19,q_26,h_27,h_47,h_67,h_68,h_79,h_90],NoBox.restrict (by intro k hk hb;simp at hk hb;simp [hk,hb,h_19,q_26,h_27,h_47,h_67,h_68,h_79,h_90,hn_25 k (by simp [hk,hb])])⟩
       ·try simp at h_79
        cases hp
        try simp [h_19,q_26,h_27,h_47,h_67,h_68,h_79]
        refine zae ?_
        rw [I_22_]
        exact ⟨by simp [zac,zab,h_19,q_26,h_27,h_47,h_67,h_68,h_79],NoBox.restrict (by intro k hk hb;simp at hk hb;simp [hk,hb,h_19,q_26,h_27,h_47,h_67,h_68,h_79,hn_25 k (by simp [hk,hb])])⟩
      ·try simp at h_68
       cases hp
       try simp [h_19,q_26,h_27,h_47,h_67,h_68]
       refine zae ?_
       rw [I_22_]
       exact ⟨by simp [zac,zab,h_19,q_26,h_27,h_47,h_67,h_68],NoBox.restrict (by intro k hk hb;simp at hk hb;simp [hk,hb,h_19,q_26,h_27,h_47,h_67,h_68,hn_25 k (by simp [hk,hb])])⟩
     ·try simp at h_67
      cases hp
      try simp [h_19,q_26,h_27,h_47,h_67]
      refine zaq ?_
      rw [X_23_]
      exact ⟨_,rfl,by simp [zac,zab,h_19,q_26,h_27,h_47,h_67],NoBox.restrict (by intro k hk hb;simp at hk hb;simp [hk,hb,h_19,q_26,h_27,h_47,h_67,hn_25 k (by simp [hk,hb])])⟩
    ·try simp at h_47
     cases hp
     try simp [h_19,q_26,h_27,h_47]
     refine zaq ?_
     rw [X_23_]
     exact ⟨_,rfl,by simp [zac,zab,h_19,q_26,h_27,h_47],NoBox.restrict (by intro k hk hb;simp at hk hb;simp [hk,hb,h_19,q_26,h_27,h_47,hn_25 k (by simp [hk,hb])])⟩
   ·try simp at h_27
    cases hp
    try simp [h_19,q_26,h_27]
    refine zag ?_
    rw [X_23_]
    exact ⟨_,rfl,by simp [zac,zab,h_19,q_26,h_27],NoBox.restrict (by intro k hk hb;simp at hk hb;simp [hk,hb,h_19,q_26,h_27,hn_25 k (by simp [hk,hb])])⟩
  ·intro out hX
   rw [X_23_] at hX
   rcases r_91 with r_91 | r_91
   ·simp only [Sum.elim_inl,Sum.elim_inr] at hX hp
    obtain ⟨σ_93,rfl,q_95,hn_94⟩:=hX
    cases hp
    simp [Goal,FnEnd,h_19,q_95]
   ·simp only [Sum.elim_inl,Sum.elim_inr] at hX hp
    obtain ⟨σ_96,rfl,q_98,hn_97⟩:=hX
    cases hp
    simp [Goal,FnEnd,h_19,q_98]
 ·try simp at h_19
  cases hp
  simp [Goal,FnEnd,h_19]
theorem pc75:PC Try.prog 75 C75:=pc_of (g:=g75) (zah _ g75_s.2.1 ⟨pc33,pc81,pc82,trivial⟩) (ent Try.func75) fun x y h=>w75 h

def C74:List AV→Option AV:=specP (X:=TStructure × TStructure × (List Int) × Unit) fun x=>zct x.1 x.2.1 x.2.2.1
theorem C74_eq {s t to_} {y} (h:zct s t to_=some y):C74 [av .shr s,av .shr t,av .shr to_]=some (Res.res y):=zai (x:=(s,t,to_,())) h
def g74:Cfg:={ P:=Try.prog,take:=[],keep:=[((74,4),{ hd:=[2,3,4,7],bx:=[],ex:=[2,4],rt:=[6] }),((74,9),{ hd:=[2,4,8],bx:=[],ex:=[],rt:=[6] })],gho:=[],ctx:=[(40,C40),(69,C69),(75,C75)] }
@[simp] theorem g74_s:type_of% (cfg_s (g:=g74) rfl):=cfg_s rfl
theorem w74 {s t to_} {y} (hp:zct s t to_=some y):∃ m,callo g74 0 74 [av .shr s,av .shr t,av .shr to_] mem0=some (Res.res y,m):=by
 refine st0 [.tmp 6] Try.func74 ?_
 unfold zct at hp
 simp [Try.f74]
 rcases zad hp with ⟨h_1,hp⟩|⟨h_1,hp⟩
 ·try simp at h_1
  cases hp
  simp [Goal,FnEnd,h_1]
 ·try simp at h_1
  try simp [h_1]
  obtain ⟨r_30,h_31,hp⟩:=zaa hp
  obtain ⟨I_4,I_4_⟩:=exV fun (s_2:Int) (σ:St)=>(σ.env 2=uL .shr to_∧σ.env 3=uP (1,3)∧σ.env 4=uP (1,4)∧σ.env 7=uI s_2∧σ.mem (1,3)=some [cL .shr s.nodes,cL .shr s.next]∧σ.mem (1,4)=some [cL .shr t.nodes,cL .shr t.next])∧NoBox [(1,3),(1,4)] σ.mem
  obtain ⟨X_5,X_5_⟩:=exV fun (r_30:(Unit) ⊕ (Unit)) (out:Out)=>Sum.elim (fun r_30=>∃ σ:St,out=.ret σ∧(σ.env 6=uB false∧σ.mem (1,3)=some [cL .shr s.nodes,cL .shr s.next]∧σ.mem (1,4)=some [cL .shr t.nodes,cL .shr t.next])∧NoBox [(1,3),(1,4)] σ.mem) (fun r_30=>∃ σ:St,out=.exit 0 σ∧(σ.env 2=uL .shr to_∧σ.env 4=uP (1,4)∧σ.mem (1,3)=some [cL .shr s.nodes,cL .shr s.next]∧σ.mem (1,4)=some [cL .shr t.nodes,cL .shr t.next])∧NoBox [(1,3),(1,4)] σ.mem) r_30
  refine loopP ({ hd:=[2,3,4,7],bx:=[],ex:=[2,4],rt:=[6] }) I_4 X_5 h_31 (by exact rfl) ?_ ?_ ?_
  ·rw [I_4_]
   exact ⟨by simp [zac,zab,h_1],NoBox.restrict (by intro k hk hb;simp at hk hb;simp [hk,hb,h_1])⟩
  ·intro s_2 σ_6 a_3 hI hp
   rw [I_4_] at hI
   obtain ⟨q_8,hn_7⟩:=hI
   try simp [h_1,q_8]
   rcases zad hp with ⟨h_9,hp⟩|⟨h_9,hp⟩
   ·try simp at h_9
    obtain ⟨e_10,h_11,hp⟩:=zaa hp
    have b_12:=at_lo h_11
    have b_13:=at_hi h_11
    try simp at b_12 b_13
    have c_14:=seg_at' h_11 0 1 (by decide) (ds:=[.sc (.int .i64 e_10)]) rfl
    try simp at c_14
    obtain ⟨y_15,h_16,hp⟩:=zaa hp
    have c_17:=zgh h_16
    simp at c_17
    try simp [h_1,q_8,h_9,b_12,b_13,c_14,c_17]
    rcases zad hp with ⟨h_18,hp⟩|⟨h_18,hp⟩
    ·try simp at h_18
     obtain ⟨z_19,h_20,hp⟩:=zaa hp
     have c_22:=slc_1 h_20
     have c_23:=slc_2 h_20
     have c_24:=slc_3 h_20
     have c_25:=slc_4 h_20
     try simp at c_22 c_23 c_24
     try simp [c_24] at c_25
     obtain ⟨y_26,h_27,hp⟩:=zaa hp
     have c_28:=C75_eq h_27
     simp at c_28
     try simp [h_1,q_8,h_9,h_18,c_22,c_23,c_24,c_25,c_28]
     rcases zad hp with ⟨h_29,hp⟩|⟨h_29,hp⟩
     ·try simp at h_29
      cases hp
      try simp [h_1,q_8,h_9,h_18,h_29]
      refine zae ?_
      rw [I_4_]
      exact ⟨by simp [zac,zab,h_1,q_8,h_9,h_18,h_29],NoBox.restrict (by intro k hk hb;simp at hk hb;simp [hk,hb,h_1,q_8,h_9,h_18,h_29,hn_7 k (by simp [hk,hb])])⟩
     ·try simp at h_29
      cases hp
      try simp [h_1,q_8,h_9,h_18,h_29]
      refine zaq ?_
      rw [X_5_]
      exact ⟨_,rfl,by simp [zac,zab,h_1,q_8,h_9,h_18,h_29],NoBox.restrict (by intro k hk hb;simp at hk hb;simp [hk,hb,h_1,q_8,h_9,h_18,h_29,hn_7 k (by simp [hk,hb])])⟩
    ·try simp at h_18
     cases hp
     try simp [h_1,q_8,h_9,h_18]
     refine zaq ?_
     rw [X_5_]
     exact ⟨_,rfl,by simp [zac,zab,h_1,q_8,h_9,h_18],NoBox.restrict (by intro k hk hb;simp at hk hb;simp [hk,hb,h_1,q_8,h_9,h_18,hn_7 k (by simp [hk,hb])])⟩
   ·try simp at h_9
    cases hp
    try simp [h_1,q_8,h_9]
    refine zag ?_
    rw [X_5_]
    exact ⟨_,rfl,by simp [zac,zab,h_1,q_8,h_9],NoBox.restrict (by intro k hk hb;simp at hk hb;simp [hk,hb,h_1,q_8,h_9,hn_7 k (by simp [hk,hb])])⟩
  ·intro out hX
   rw [X_5_] at hX
   rcases r_30 with r_30 | r_30
   ·simp only [Sum.elim_inl,Sum.elim_inr] at hX hp
    obtain ⟨σ_32,rfl,q_34,hn_33⟩:=hX
    cases hp
    simp [Goal,FnEnd,h_1,q_34]
   ·simp only [Sum.elim_inl,Sum.elim_inr] at hX hp
    obtain ⟨σ_35,rfl,q_37,hn_36⟩:=hX
    try simp [h_1,q_37]
    obtain ⟨r_50,h_51,hp⟩:=zaa hp
    obtain ⟨I_40,I_40_⟩:=exV fun (s_38:Int) (σ:St)=>(σ.env 2=uL .shr to_∧σ.env 4=uP (1,4)∧σ.env 8=uI s_38∧σ.mem (1,3)=some [cL .shr s.nodes,cL .shr s.next]∧σ.mem (1,4)=some [cL .shr t.nodes,cL .shr t.next])∧NoBox [(1,3),(1,4)] σ.mem
    obtain ⟨X_41,X_41_⟩:=exV fun (r_50:(Bool) ⊕ (Unit)) (out:Out)=>Sum.elim (fun r_50=>∃ σ:St,out=.ret σ∧(σ.env 6=uB r_50∧σ.mem (1,3)=some [cL .shr s.nodes,cL .shr s.next]∧σ.mem (1,4)=some [cL .shr t.nodes,cL .shr t.next])∧NoBox [(1,3),(1,4)] σ.mem) (fun r_50=>∃ σ:St,out=.exit 2 σ∧(σ.mem (1,3)=some [cL .shr s.nodes,cL .shr s.next]∧σ.mem (1,4)=some [cL .shr t.nodes,cL .shr t.next])∧NoBox [(1,3),(1,4)] σ.mem) r_50
    refine loopP ({ hd:=[2,4,8],bx:=[],ex:=[],rt:=[6] }) I_40 X_41 h_51 (by exact rfl) ?_ ?_ ?_
    ·rw [I_40_]
     exact ⟨by simp [zac,zab,h_1,q_37],NoBox.restrict (by intro k hk hb;simp at hk hb;simp [hk,hb,h_1,q_37,hn_36 k (by simp [hk,hb])])⟩
    ·intro s_38 σ_42 a_39 hI hp
     rw [I_40_] at hI
     obtain ⟨q_44,hn_43⟩:=hI
     try simp [h_1,q_44]
     rcases zad hp with ⟨h_45,hp⟩|⟨h_45,hp⟩
     ·try simp at h_45
      obtain ⟨y_46,h_47,hp⟩:=zaa hp
      have c_48:=C69_eq h_47
      simp at c_48
      try simp [h_1,q_44,h_45,c_48]
      rcases zad hp with ⟨h_49,hp⟩|⟨h_49,hp⟩
      ·try simp at h_49
       cases hp
       try simp [h_1,q_44,h_45,h_49]
       refine zae ?_
       rw [I_40_]
       exact ⟨by simp [zac,zab,h_1,q_44,h_45,h_49],NoBox.restrict (by intro k hk hb;simp at hk hb;simp [hk,hb,h_1,q_44,h_45,h_49,hn_43 k (by simp [hk,hb])])⟩
      ·try simp at h_49
       cases hp
       try simp [h_1,q_44,h_45,h_49]
       refine zaq ?_
       rw [X_41_]
       exact ⟨_,rfl,by simp [zac,zab,h_1,q_44,h_45,h_49],NoBox.restrict (by intro k hk hb;simp at hk hb;simp [hk,hb,h_1,q_44,h_45,h_49,hn_43 k (by simp [hk,hb])])⟩
     ·try simp at h_45
      cases hp
      try simp [h_1,q_44,h_45]
      refine zag ?_
      rw [X_41_]
      exact ⟨_,rfl,by simp [zac,zab,h_1,q_44,h_45],NoBox.restrict (by intro k hk hb;simp at hk hb;simp [hk,hb,h_1,q_44,h_45,hn_43 k (by simp [hk,hb])])⟩
    ·intro out hX
     rw [X_41_] at hX
     rcases r_50 with r_50 | r_50
     ·simp only [Sum.elim_inl,Sum.elim_inr] at hX hp
      obtain ⟨σ_52,rfl,q_54,hn_53⟩:=hX
      cases hp
      simp [Goal,FnEnd,h_1,q_54]
     ·simp only [Sum.elim_inl,Sum.elim_inr] at hX hp
      obtain ⟨σ_55,rfl,q_57,hn_56⟩:=hX
      cases hp
      simp [Goal,FnEnd,h_1,q_57]
theorem pc74:PC Try.prog 74 C74:=pc_of (g:=g74) (zah _ g74_s.2.1 ⟨pc40,pc69,pc75,trivial⟩) (ent Try.func74) fun x y h=>w74 h

abbrev G62 (g:Cfg):Prop:=Has Try.prog g 62 Try.f62 [41] [(4,{ hd:=[2,3,4,8],bx:=[],ex:=[],rt:=[6,7] })] [(74,C74),(75,C75)] []
theorem wI62 {g:Cfg} (G:G62 g) (fu:Nat):∀ {d:Nat} {mem:Mem} (hT:Tight d mem)  {s:TStructure} {t:TStructure} {to_:(List Int)} {m_0:Md} (hm_0:LentM m_0) {m_1:Md} (hm_1:LentM m_1) {m_2:Md} (hm_2:LentM m_2) {y} (hp:fixN zbl fu (s,t,to_,())=some y),∃ r,callo g d 62 [av m_0 s,av m_1 t,av m_2 to_] mem=some (r,mem)∧∃ me_0:Md,r=.tu [tupM me_0 y.1,tup y.2]:=by
 have gP:=G.P;have gt:=G.tk;have gr:=G.ro;have gg:=G.gh
 have i_62:=G.no
 have k_4:=G.kp (4,{ hd:=[2,3,4,8],bx:=[],ex:=[],rt:=[6,7] }) (by simp)
 have c_74:=G.cs (74,C74) (by simp)
 have c_75:=G.cs (75,C75) (by simp)
 induction fu with
 | zero=>intros;exact absurd ‹fixN _ 0 _=some _› (by simp [fixN])
 | succ fu ih =>
  intro d mem hT s t to_ m_0 hm_0 m_1 hm_1 m_2 hm_2 y hp
  have hT2:memKill (fun k=>decide (d < k.1)) mem=mem:=hT
  have hm0:∀ t,mem (d+1,t)=none:=fun t=>hT.none (by simp)
  refine start_ex (Try.f62.body.getD .skip) [.tmp 6,.tmp 7] G Try.func62 (by kernel_rfl) (by simp [Try.ntmps62]) rfl ?_
  replace hp:zcx (fun s t to_=>fixN zbl fu (s,t,to_,())) s t to_=some y:=hp
  unfold zcx at hp
  simp [Try.f62,gP,gt,gr,gg,hm0,i_62,hm_0.copy,hm_0.elem,hm_1.copy,hm_1.elem,hm_2.copy,hm_2.elem]
  rcases zad hp with ⟨h_1,hp⟩|⟨h_1,hp⟩
  ·try simp at h_1
   obtain ⟨y_2,h_3,hp⟩:=zaa hp
   have c_4:=C74_eq h_3
   simp at c_4
   cases hp
   simp [Goal,FnEndE,zaw,retR,rsrc,RSrc.val,nodupR,nodup,tupPart,gP,gt,gr,gg,hm0,c_74,i_62,hm_0.copy,hm_0.elem,hm_1.copy,hm_1.elem,hm_2.copy,hm_2.elem,h_1,c_4,hT2]
  ·try simp at h_1
   try simp [gP,gt,gr,gg,hm0,c_74,c_75,i_62,hm_0.copy,hm_0.elem,hm_1.copy,hm_1.elem,hm_2.copy,hm_2.elem,h_1]
   obtain ⟨r_27,h_28,hp⟩:=zaa hp
   obtain ⟨I_7,I_7_⟩:=exV fun (s_5:Int) (σ:St)=>(σ.env 2=uL m_2 to_∧σ.env 3=uP (d+1,3)∧σ.env 4=uP (d+1,4)∧σ.env 8=uI s_5∧σ.mem (d+1,3)=some [cL m_0 s.nodes,cL m_0 s.next]∧σ.mem (d+1,4)=some [cL m_1 t.nodes,cL m_1 t.next])∧Tight (d+1) σ.mem∧Agree d mem σ.mem∧NoBoxD d [(d+1,3),(d+1,4)] σ.mem
   obtain ⟨X_8,X_8_⟩:=exV fun (r_27:((List Int) × Bool) ⊕ (Unit)) (out:Out)=>Sum.elim (fun r_27=>∃ σ:St,out=.ret σ∧(σ.env 7=uB r_27.2∧σ.mem (d+1,3)=some [cL m_0 s.nodes,cL m_0 s.next]∧σ.mem (d+1,4)=some [cL m_1 t.nodes,cL m_1 t.next])∧(∃ mq_29:Md,σ.env 6=uL mq_29 r_27.1)∧Tight (d+1) σ.mem∧Agree d mem σ.mem∧NoBoxD d [(d+1,3),(d+1,4)] σ.mem) (fun r_27=>∃ σ:St,out=.exit 0 σ∧(σ.mem (d+1,3)=some [cL m_0 s.nodes,cL m_0 s.next]∧σ.mem (d+1,4)=some [cL m_1 t.nodes,cL m_1 t.next])∧Tight (d+1) σ.mem∧Agree d mem σ.mem∧NoBoxD d [(d+1,3),(d+1,4)] σ.mem) r_27
   refine loopP ({ hd:=[2,3,4,8],bx:=[],ex:=[],rt:=[6,7] }) I_7 X_8 h_28 (by exact k_4) ?_ ?_ ?_
   ·rw [I_7_]
    exact ⟨by simp [zac,zab,gP,gt,gr,gg,hm0,c_74,c_75,i_62,hm_0.copy,hm_0.elem,hm_1.copy,hm_1.elem,hm_2.copy,hm_2.elem,h_1],(by repeat (first | exact zak _ | exact hT.up | exact hT | refine Tight.restrict ?_ | refine Tight.upd ?_ (by simp) (by simp) | refine Tight.killB ?_ | refine zar ?_)),(by repeat (first | exact fun k hk=>rfl | refine Agree.restrict hT ?_ | refine Agree.upd ?_ (by simp))),NoBoxD.restrict (by intro k hd hk hb;simp at hk hb;simp [hk,hb,gP,gt,gr,gg,hm0,c_74,c_75,i_62,hm_0.copy,hm_0.elem,hm_1.copy,hm_1.elem,hm_2.copy,hm_2.elem,h_1,hT.none hd])⟩
   ·intro s_5 σ_9 a_6 hI hp
    rw [I_7_] at hI
    obtain ⟨q_13,ht_10,ha_11,hn_12⟩:=hI
    try simp [gP,gt,gr,gg,hm0,c_74,c_75,i_62,hm_0.copy,hm_0.elem,hm_1.copy,hm_1.elem,hm_2.copy,hm_2.elem,h_1,q_13]
    rcases zad hp with ⟨h_14,hp⟩|⟨h_14,hp⟩
    ·try simp at h_14
     obtain ⟨_,h_15,hp⟩:=zaa hp
     have b_16:=zau h_15
     try simp at b_16
     obtain ⟨_,h_17,hp⟩:=zaa hp
     have b_18:=zau h_17
     try simp at b_18
     obtain ⟨y_19,h_20,hp⟩:=zaa hp
     have c_21:=C75_eq h_20
     simp at c_21
     try simp [gP,gt,gr,gg,hm0,c_74,c_75,i_62,hm_0.copy,hm_0.elem,hm_1.copy,hm_1.elem,hm_2.copy,hm_2.elem,h_1,q_13,h_14,b_16,b_18,c_21]
     rcases zad hp with ⟨h_22,hp⟩|⟨h_22,hp⟩
     ·try simp at h_22
      obtain ⟨y_23,h_24,hp⟩:=zaa hp
      try simp [gP,gt,gr,gg,hm0,c_74,c_75,i_62,hm_0.copy,hm_0.elem,hm_1.copy,hm_1.elem,hm_2.copy,hm_2.elem,h_1,q_13,h_14,h_22]
      refine znu [av m_0 s,av m_1 t,av .bor (to_ ++ [s_5])] (fun r=>∃ me_25:Md,r=.tu [tupM me_25 y_23.1,tup y_23.2]) (by simp [gP,gt,gr,gg,hm0,c_74,c_75,i_62,hm_0.copy,hm_0.elem,hm_1.copy,hm_1.elem,hm_2.copy,hm_2.elem,h_1,q_13,h_14,h_22]) (ih (by repeat (first | exact ht_10 | exact zak _ | exact hT.up | exact hT | (simp only [q_13];done) | refine Tight.upd ?_ (by simp) (by simp) | refine Tight.killB ?_ | refine zar ?_)) hm_0 hm_1 (.inr rfl) h_24) ?_
      rintro _ ⟨me_25,rfl⟩
      try simp [gP,gt,gr,gg,hm0,c_74,c_75,i_62,hm_0.copy,hm_0.elem,hm_1.copy,hm_1.elem,hm_2.copy,hm_2.elem,h_1,q_13,h_14,h_22]
      rcases zad hp with ⟨h_26,hp⟩|⟨h_26,hp⟩
      ·try simp at h_26
       cases hp
       try simp [gP,gt,gr,gg,hm0,c_74,c_75,i_62,hm_0.copy,hm_0.elem,hm_1.copy,hm_1.elem,hm_2.copy,hm_2.elem,h_1,q_13,h_14,h_22,h_26]
       refine zaq ?_
       rw [X_8_]
       exact ⟨_,rfl,by simp [zac,zab,gP,gt,gr,gg,hm0,c_74,c_75,i_62,hm_0.copy,hm_0.elem,hm_1.copy,hm_1.elem,hm_2.copy,hm_2.elem,h_1,q_13,h_14,h_22,h_26],⟨me_25.copy,by simp [zac,gP,gt,gr,gg,hm0,c_74,c_75,i_62,hm_0.copy,hm_0.elem,hm_1.copy,hm_1.elem,hm_2.copy,hm_2.elem,h_1,q_13,h_14,h_22,h_26]⟩,(by repeat (first | exact ht_10 | exact zak _ | exact hT.up | exact hT | refine Tight.restrict ?_ | refine Tight.upd ?_ (by simp) (by simp) | refine Tight.killB ?_ | refine zar ?_)),(by repeat (first | exact ha_11 | exact fun k hk=>rfl | refine Agree.restrict hT ?_ | refine Agree.upd ?_ (by simp))),NoBoxD.restrict (by intro k hd hk hb;simp at hk hb;simp [hk,hb,gP,gt,gr,gg,hm0,c_74,c_75,i_62,hm_0.copy,hm_0.elem,hm_1.copy,hm_1.elem,hm_2.copy,hm_2.elem,h_1,q_13,h_14,h_22,h_26,hn_12 k hd (by simp [hk,hb])])⟩
      ·try simp at h_26
       cases hp
       try simp [gP,gt,gr,gg,hm0,c_74,c_75,i_62,hm_0.copy,hm_0.elem,hm_1.copy,hm_1.elem,hm_2.copy,hm_2.elem,h_1,q_13,h_14,h_22,h_26]
       refine zae ?_
       rw [I_7_]
       exact ⟨by simp [zac,zab,gP,gt,gr,gg,hm0,c_74,c_75,i_62,hm_0.copy,hm_0.elem,hm_1.copy,hm_1.elem,hm_2.copy,hm_2.elem,h_1,q_13,h_14,h_22,h_26],(by repeat (first | exact ht_10 | exact zak _ | exact hT.up | exact hT | refine Tight.restrict ?_ | refine Tight.upd ?_ (by simp) (by simp) | refine Tight.killB ?_ | refine zar ?_)),(by repeat (first | exact ha_11 | exact fun k hk=>rfl | refine Agree.restrict hT ?_ | refine Agree.upd ?_ (by simp))),NoBoxD.restrict (by intro k hd hk hb;simp at hk hb;simp [hk,hb,gP,gt,gr,gg,hm0,c_74,c_75,i_62,hm_0.copy,hm_0.elem,hm_1.copy,hm_1.elem,hm_2.copy,hm_2.elem,h_1,q_13,h_14,h_22,h_26,hn_12 k hd (by simp [hk,hb])])⟩
     ·try simp at h_22
      cases hp
      try simp [gP,gt,gr,gg,hm0,c_74,c_75,i_62,hm_0.copy,hm_0.elem,hm_1.copy,hm_1.elem,hm_2.copy,hm_2.elem,h_1,q_13,h_14,h_22]
      refine zae ?_
      rw [I_7_]
      exact ⟨by simp [zac,zab,gP,gt,gr,gg,hm0,c_74,c_75,i_62,hm_0.copy,hm_0.elem,hm_1.copy,hm_1.elem,hm_2.copy,hm_2.elem,h_1,q_13,h_14,h_22],(by repeat (first | exact ht_10 | exact zak _ | exact hT.up | exact hT | refine Tight.restrict ?_ | refine Tight.upd ?_ (by simp) (by simp) | refine Tight.killB ?_ | refine zar ?_)),(by repeat (first | exact ha_11 | exact fun k hk=>rfl | refine Agree.restrict hT ?_ | refine Agree.upd ?_ (by simp))),NoBoxD.restrict (by intro k hd hk hb;simp at hk hb;simp [hk,hb,gP,gt,gr,gg,hm0,c_74,c_75,i_62,hm_0.copy,hm_0.elem,hm_1.copy,hm_1.elem,hm_2.copy,hm_2.elem,h_1,q_13,h_14,h_22,hn_12 k hd (by simp [hk,hb])])⟩
    ·try simp at h_14
     cases hp
     try simp [gP,gt,gr,gg,hm0,c_74,c_75,i_62,hm_0.copy,hm_0.elem,hm_1.copy,hm_1.elem,hm_2.copy,hm_2.elem,h_1,q_13,h_14]
     refine zag ?_
     rw [X_8_]
     exact ⟨_,rfl,by simp [zac,zab,gP,gt,gr,gg,hm0,c_74,c_75,i_62,hm_0.copy,hm_0.elem,hm_1.copy,hm_1.elem,hm_2.copy,hm_2.elem,h_1,q_13,h_14],(by repeat (first | exact ht_10 | exact zak _ | exact hT.up | exact hT | refine Tight.restrict ?_ | refine Tight.upd ?_ (by simp) (by simp) | refine Tight.killB ?_ | refine zar ?_)),(by repeat (first | exact ha_11 | exact fun k hk=>rfl | refine Agree.restrict hT ?_ | refine Agree.upd ?_ (by simp))),NoBoxD.restrict (by intro k hd hk hb;simp at hk hb;simp [hk,hb,gP,gt,gr,gg,hm0,c_74,c_75,i_62,hm_0.copy,hm_0.elem,hm_1.copy,hm_1.elem,hm_2.copy,hm_2.elem,h_1,q_13,h_14,hn_12 k hd (by simp [hk,hb])])⟩
   ·intro out hX
    rw [X_8_] at hX
    rcases r_27 with r_27 | r_27
    ·simp only [Sum.elim_inl,Sum.elim_inr] at hX hp
     obtain ⟨σ_30,rfl,q_35,⟨mq_29,q_31⟩,ht_32,ha_33,hn_34⟩:=hX
     cases hp
     simp [Goal,FnEndE,zaw,retR,rsrc,RSrc.val,nodupR,nodup,tupPart,gP,gt,gr,gg,hm0,c_74,c_75,i_62,hm_0.copy,hm_0.elem,hm_1.copy,hm_1.elem,hm_2.copy,hm_2.elem,h_1,q_35,q_31,kill_back ha_33 hT]
    ·simp only [Sum.elim_inl,Sum.elim_inr] at hX hp
     obtain ⟨σ_36,rfl,q_40,ht_37,ha_38,hn_39⟩:=hX
     cases hp
     simp [Goal,FnEndE,zaw,retR,rsrc,RSrc.val,nodupR,nodup,tupPart,gP,gt,gr,gg,hm0,c_74,c_75,i_62,hm_0.copy,hm_0.elem,hm_1.copy,hm_1.elem,hm_2.copy,hm_2.elem,h_1,q_40,kill_back ha_38 hT]

def C41:List AV→Option AV:=specP (X:=TStructure × TStructure × Unit) fun x=>zbt x.1 x.2.1
theorem C41_eq {s t} {y} (h:zbt s t=some y):C41 [av .shr s,av .shr t]=some (Res.res y):=zai (x:=(s,t,())) h
def g41:Cfg:={ P:=Try.prog,take:=[(41,8),(62,41)],keep:=[((62,4),{ hd:=[2,3,4,8],bx:=[],ex:=[],rt:=[6,7] })],gho:=[],ctx:=[(74,C74),(75,C75)] }
@[simp] theorem g41_s:type_of% (cfg_s (g:=g41) rfl):=cfg_s rfl
theorem w41 {s t} {y} (hp:zbt s t=some y):∃ m,callo g41 0 41 [av .shr s,av .shr t] mem0=some (Res.res y,m):=by
 have G_62:G62 g41:=⟨rfl,by kernel_rfl,rfl,fun t=>by simp,noAway (fun t=>by simp) (by simp) (fun t=>by simp),by simp [lookN],fun i=>by simp [lookK],by simp [g41,lookK],by simp⟩
 refine st0 [.tmp 4,.tmp 5] Try.func41 ?_
 unfold zbt at hp
 obtain ⟨y_1,h_2,hp⟩:=zaa hp
 simp [Try.f41]
 refine znu [av .shr s,av .shr t,av .bor []] (fun r=>∃ me_3:Md,r=.tu [tupM me_3 y_1.1,tup y_1.2]) (by simp) (wI62 G_62 _ (by repeat (first | exact zak _ | exact hT.up | exact hT | (simp only [true_and];done) | refine Tight.upd ?_ (by simp) (by simp) | refine Tight.killB ?_ | refine zar ?_)) (.inl rfl) (.inl rfl) (.inr rfl) (fixO_some h_2).choose_spec) ?_
 rintro _ ⟨me_3,rfl⟩
 try simp
 rcases zad hp with ⟨h_4,hp⟩|⟨h_4,hp⟩
 ·try simp at h_4
  obtain ⟨_,h_5,hp⟩:=zaa hp
  have b_6:=zau h_5
  try simp at b_6
  cases hp
  simp [Goal,FnEnd,retR,rsrc,RSrc.val,nodupR,nodup,tupPart,h_4,b_6]
 ·try simp at h_4
  cases hp
  simp [Goal,FnEnd,retR,rsrc,RSrc.val,nodupR,nodup,tupPart,h_4]
theorem pc41:PC Try.prog 41 C41:=pc_of (g:=g41) (zah _ g41_s.2.1 ⟨pc74,pc75,trivial⟩) (ent Try.func41) fun x y h=>w41 h

def C13:List AV→Option AV:=specP (X:=TStructure × TStructure × Unit) fun x=>zbs x.1 x.2.1
theorem C13_eq {s t} {y} (h:zbs s t=some y):C13 [av .shr s,av .shr t]=some (Res.res y):=zai (x:=(s,t,())) h
def g13:Cfg:={ P:=Try.prog,take:=[(13,7)],keep:=[],gho:=[],ctx:=[(41,C41)] }
@[simp] theorem g13_s:type_of% (cfg_s (g:=g13) rfl):=cfg_s rfl
theorem w13 {s t} {y} (hp:zbs s t=some y):∃ m,callo g13 0 13 [av .shr s,av .shr t] mem0=some (Res.res y,m):=by
 refine st0 [.tmp 4] Try.func13 ?_
 unfold zbs at hp
 obtain ⟨y_1,h_2,hp⟩:=zaa hp
 have c_3:=C41_eq h_2
 simp at c_3
 cases hp
 simp [Try.f13,Goal,FnEnd,c_3]
theorem pc13:PC Try.prog 13 C13:=pc_of (g:=g13) (zah _ g13_s.2.1 ⟨pc41,trivial⟩) (ent Try.func13) fun x y h=>w13 h

def C14:List AV→Option AV:=specPS (X:=(List U8) × Unit) fun x=>zbu x.1
theorem C14_eq {code} {y} (h:zbu code=some y):C14 [av .shr code]=some ((Res.res y).toS):=zli (x:=(code,())) h
def g14:Cfg:={ P:=Try.prog,take:=[],keep:=[],gho:=[((14,atEnd),[.shareM (1,2)]),((14,4),[.shareM (1,5)]),((14,5),[.shareM (1,5)])],ctx:=[(43,C43),(44,C44)],away:=[(14,15,2),(14,18,2),(14,18,4000000)],give:=[(14,7)],bctx:=[(17,C17)],pctx:=[(18,C18),(19,C19),(42,C42)] }
@[simp] theorem g14_s:type_of% (cfg_s (g:=g14) rfl):=cfg_s rfl
theorem g14_x18:PxOK g14 18 C18:=⟨rfl,rfl,Try.f18,Try.f18.body.getD .skip,Try.func18,by kernel_rfl⟩
theorem g14_x19:PxOK g14 19 C19:=⟨rfl,rfl,Try.f19,Try.f19.body.getD .skip,Try.func19,by kernel_rfl⟩
theorem g14_x42:PxOK g14 42 C42:=⟨rfl,rfl,Try.f42,Try.f42.body.getD .skip,Try.func42,by kernel_rfl⟩
@[simp] theorem g14_wa (d f dst key):awayB g14 d f dst key=awayL [(14,15,2),(14,18,2),(14,18,4000000)] d f dst key:=rfl
@[simp] theorem g14_wl (d f a key):lateB g14 d f a key=lateL [(14,15,2),(14,18,2),(14,18,4000000)] d f a key:=rfl
theorem w14 {code} {y} (hp:zbu code=some y):∃ m,callo g14 0 14 [av .shr code] mem0=some ((Res.res y).toS,m):=by
 refine st0 [.cell 2 27,.cell 3 36] Try.func14 ?_
 unfold zbu at hp
 obtain ⟨y_1,h_2,hp⟩:=zaa hp
 simp [Try.f14]
 refine goal_new (1,5000007) (C17_eq h_2) (by rfl) (by rfl) (by simp) (by simp) (by rfl) (by simp [mem0]) ?_
 obtain ⟨y_3,h_4,hp⟩:=zaa hp
 try simp
 refine zaj (1,5000007) (C42_eq h_4) g14_x42 (by simp) (by simp) (by simp) (.inr (by decide)) ?_
 obtain ⟨y_5,h_6,hp⟩:=zaa hp
 try simp
 refine zaj (1,5000007) (C19_eq h_6) g14_x19 (by simp) (by simp) (by simp) (.inr (by decide)) ?_
 try simp
 rcases zad hp with ⟨h_7,hp⟩|⟨h_7,hp⟩
 ·try simp at h_7
  obtain ⟨y_8,h_9,hp⟩:=zaa hp
  have c_10:=C44_eq h_9
  simp at c_10
  obtain ⟨y_11,h_12,hp⟩:=zaa hp
  have c_13:=C43_eq h_12
  simp at c_13
  cases hp
  simp [Goal,FnEnd,retR,rsrc,RSrc.val,nodupR,nodup,tupPart,h_7,c_10,c_13]
 ·try simp at h_7
  obtain ⟨y_14,h_15,hp⟩:=zaa hp
  try simp [h_7]
  refine zaj (1,5000007) (C18_eq h_15) g14_x18 (by simp [h_7]) (by simp) (by simp [h_7]) (.inr (by decide)) ?_
  cases hp
  simp [Goal,FnEnd,retR,rsrc,RSrc.val,nodupR,nodup,tupPart,h_7]
theorem pc14:PC Try.prog 14 C14:=pc_ofS (g:=g14) (zfs [(43,C43),(44,C44)] rfl ⟨pc43,pc44,trivial⟩ [] rfl trivial [(17,C17)] rfl ⟨bc17,trivial⟩ [(18,C18),(19,C19),(42,C42)] rfl ⟨px18,px19,px42,trivial⟩) (ent Try.func14) fun x y h=>w14 h

def C15:List AV→Option AV:=specP (X:=TStructure × THeap × Unit) fun x=>zbq x.1 x.2.1
theorem C15_eq {t h_} {y} (h:zbq t h_=some y):C15 [av .shr t,av .shr h_]=some (Res.res y):=zai (x:=(t,h_,())) h
def g15:Cfg:={ P:=Try.prog,take:=[],keep:=[],gho:=[],ctx:=[(13,C13),(44,C44)] }
@[simp] theorem g15_s:type_of% (cfg_s (g:=g15) rfl):=cfg_s rfl
theorem w15 {t h_} {y} (hp:zbq t h_=some y):∃ m,callo g15 0 15 [av .shr t,av .shr h_] mem0=some (Res.res y,m):=by
 refine st0 [.tmp 4] Try.func15 ?_
 unfold zbq at hp
 obtain ⟨y_1,h_2,hp⟩:=zaa hp
 have c_3:=C44_eq h_2
 simp at c_3
 obtain ⟨y_4,h_5,hp⟩:=zaa hp
 have c_6:=C13_eq h_5
 simp at c_6
 cases hp
 simp [Try.f15,Goal,FnEnd,c_3,c_6]
theorem pc15:PC Try.prog 15 C15:=pc_of (g:=g15) (zah _ g15_s.2.1 ⟨pc13,pc44,trivial⟩) (ent Try.func15) fun x y h=>w15 h

def C16:List AV→Option AV:=specP (X:=(List TStructure) × THeap × Unit) fun x=>laws_anySet x.1 x.2.1
theorem C16_eq {list h_} {y} (h:laws_anySet list h_=some y):C16 [av .shr list,av .shr h_]=some (Res.res y):=zai (x:=(list,h_,())) h
def g16:Cfg:={ P:=Try.prog,take:=[],keep:=[((16,2),{ hd:=[0,3,5],bx:=[],ex:=[],rt:=[4] })],gho:=[],ctx:=[(15,C15)] }
@[simp] theorem g16_s:type_of% (cfg_s (g:=g16) rfl):=cfg_s rfl
theorem w16 {list h_} {y} (hp:laws_anySet list h_=some y):∃ m,callo g16 0 16 [av .shr list,av .shr h_] mem0=some (Res.res y,m):=by
 refine st0 [.tmp 4] Try.func16 ?_
 unfold laws_anySet at hp
 simp [Try.f16]
 obtain ⟨r_18,h_19,hp⟩:=zaa hp
 obtain ⟨I_3,I_3_⟩:=exV fun (s_1:Int) (σ:St)=>(σ.env 0=uL .shr list∧σ.env 3=uP (1,3)∧σ.env 5=uI s_1∧σ.mem (1,3)=some [cL .shr h_.vars,cL .shr h_.next])∧NoBox [(1,3)] σ.mem
 obtain ⟨X_4,X_4_⟩:=exV fun (r_18:(Bool) ⊕ (Unit)) (out:Out)=>Sum.elim (fun r_18=>∃ σ:St,out=.ret σ∧(σ.env 4=uB r_18∧σ.mem (1,3)=some [cL .shr h_.vars,cL .shr h_.next])∧NoBox [(1,3)] σ.mem) (fun r_18=>∃ σ:St,out=.exit 0 σ∧σ.mem (1,3)=some [cL .shr h_.vars,cL .shr h_.next]∧NoBox [(1,3)] σ.mem) r_18
 refine loopP ({ hd:=[0,3,5],bx:=[],ex:=[],rt:=[4] }) I_3 X_4 h_19 (by exact rfl) ?_ ?_ ?_
 ·rw [I_3_]
  exact ⟨by simp [zac,zab],NoBox.restrict (by intro k hk hb;simp at hk hb;simp [hk,hb])⟩
 ·intro s_1 σ_5 a_2 hI hp
  rw [I_3_] at hI
  obtain ⟨q_7,hn_6⟩:=hI
  try simp [q_7]
  rcases zad hp with ⟨h_8,hp⟩|⟨h_8,hp⟩
  ·try simp at h_8
   obtain ⟨e_9,h_10,hp⟩:=zaa hp
   have b_11:=at_lo h_10
   have b_12:=at_hi h_10
   try simp at b_11 b_12
   have c_13:=seg_at' h_10 0 2 (by decide) (ds:=[.sl e_9.nodes.length (encL e_9.nodes),.sl e_9.next.length (encL e_9.next)]) rfl
   try simp at c_13
   obtain ⟨y_14,h_15,hp⟩:=zaa hp
   have c_16:=C15_eq h_15
   simp at c_16
   try simp [q_7,h_8,b_11,b_12,c_13,c_16]
   rcases zad hp with ⟨h_17,hp⟩|⟨h_17,hp⟩
   ·try simp at h_17
    cases hp
    try simp [q_7,h_8,h_17]
    refine zaq ?_
    rw [X_4_]
    exact ⟨_,rfl,by simp [zac,zab,q_7,h_8,h_17],NoBox.restrict (by intro k hk hb;simp at hk hb;simp [hk,hb,q_7,h_8,h_17,hn_6 k (by simp [hk,hb])])⟩
   ·try simp at h_17
    cases hp
    try simp [q_7,h_8,h_17]
    refine zae ?_
    rw [I_3_]
    exact ⟨by simp [zac,zab,q_7,h_8,h_17],NoBox.restrict (by intro k hk hb;simp at hk hb;simp [hk,hb,q_7,h_8,h_17,hn_6 k (by simp [hk,hb])])⟩
  ·try simp at h_8
   cases hp
   try simp [q_7,h_8]
   refine zag ?_
   rw [X_4_]
   exact ⟨_,rfl,by simp [zac,zab,q_7,h_8],NoBox.restrict (by intro k hk hb;simp at hk hb;simp [hk,hb,q_7,h_8,hn_6 k (by simp [hk,hb])])⟩
 ·intro out hX
  rw [X_4_] at hX
  rcases r_18 with r_18 | r_18
  ·simp only [Sum.elim_inl,Sum.elim_inr] at hX hp
   obtain ⟨σ_20,rfl,q_22,hn_21⟩:=hX
   cases hp
   simp [Goal,FnEnd,q_22]
  ·simp only [Sum.elim_inl,Sum.elim_inr] at hX hp
   obtain ⟨σ_23,rfl,q_25,hn_24⟩:=hX
   cases hp
   simp [Goal,FnEnd,q_25]
theorem pc16:PC Try.prog 16 C16:=pc_of (g:=g16) (zah _ g16_s.2.1 ⟨pc15,trivial⟩) (ent Try.func16) fun x y h=>w16 h

def C3:List AV→Option AV:=specP (X:=(List U8) × Unit) fun x=>laws_FnFocused x.1
theorem C3_eq {code} {y} (h:laws_FnFocused code=some y):C3 [av .shr code]=some (Res.res y):=zai (x:=(code,())) h
def g3:Cfg:={ P:=Try.prog,take:=[(3,14),(3,25),(3,73)],keep:=[((3,10),{ hd:=[0,3,5,6,9],bx:=[],ex:=[0],rt:=[2] })],gho:=[],ctx:=[(4,C4),(5,C5),(6,C6),(7,C7),(8,C8),(9,C9),(10,C10),(11,C11),(12,C12),(13,C13),(14,C14),(15,C15),(16,C16)] }
@[simp] theorem g3_s:type_of% (cfg_s (g:=g3) rfl):=cfg_s rfl
theorem w3 {code} {y} (hp:laws_FnFocused code=some y):∃ m,callo g3 0 3 [av .shr code] mem0=some (Res.res y,m):=by
 refine st0 [.tmp 2] Try.func3 ?_
 unfold laws_FnFocused at hp
 obtain ⟨y_1,h_2,hp⟩:=zaa hp
 have c_3:=C4_eq h_2
 simp at c_3
 simp [Try.f3,c_3]
 rcases zad hp with ⟨h_4,hp⟩|⟨h_4,hp⟩
 ·try simp at h_4
  cases hp
  simp [Goal,FnEnd,h_4]
 ·try simp at h_4
  obtain ⟨y_5,h_6,hp⟩:=zaa hp
  have c_7:=C5_eq h_6
  simp at c_7
  obtain ⟨y_8,h_9,hp⟩:=zaa hp
  have c_10:=C6_eq h_9
  simp at c_10
  obtain ⟨y_11,h_12,hp⟩:=zaa hp
  have c_13:=C7_eq h_12
  simp at c_13
  obtain ⟨y_14,h_15,hp⟩:=zaa hp
  have c_16:=C8_eq h_15
  simp at c_16
  try simp [h_4,c_7,c_10,c_13,c_16]
  rcases zad hp with ⟨h_17,hp⟩|⟨h_17,hp⟩
  ·try simp at h_17
   cases hp
   simp [Goal,FnEnd,h_4,h_17]
  ·try simp at h_17
   obtain ⟨y_18,h_19,hp⟩:=zaa hp
   have c_20:=C9_eq h_19
   simp at c_20
   obtain ⟨y_21,h_22,hp⟩:=zaa hp
   have c_23:=C10_eq h_22
   simp at c_23
   try simp [h_4,h_17,c_20,c_23]
   rcases zad hp with ⟨h_24,hp⟩|⟨h_24,hp⟩
   ·try simp at h_24
    cases hp
    simp [Goal,FnEnd,h_4,h_17,h_24]
   ·try simp at h_24
    try simp [h_4,h_17,h_24]
    obtain ⟨r_60,h_61,hp⟩:=zaa hp
    obtain ⟨I_27,I_27_⟩:=exV fun (s_25:Int) (σ:St)=>(σ.env 0=uL .shr code∧σ.env 3=uP (1,3)∧σ.env 5=uL .own y_8∧σ.env 6=uL .own y_11∧σ.env 9=uI s_25∧σ.mem (1,3)=some [cL .shr y_5.1.nodes,cL .shr y_5.1.next]∧σ.mem (1,7)=some [cL .shr y_14.1.nodes,cL .shr y_14.1.next])∧NoBox [(1,3),(1,7)] σ.mem
    obtain ⟨X_28,X_28_⟩:=exV fun (r_60:(Unit) ⊕ (Unit)) (out:Out)=>Sum.elim (fun r_60=>∃ σ:St,out=.ret σ∧(σ.env 2=uB false∧σ.mem (1,3)=some [cL .shr y_5.1.nodes,cL .shr y_5.1.next]∧σ.mem (1,7)=some [cL .shr y_14.1.nodes,cL .shr y_14.1.next])∧NoBox [(1,3),(1,7)] σ.mem) (fun r_60=>∃ σ:St,out=.exit 0 σ∧(σ.env 0=uL .shr code∧σ.mem (1,3)=some [cL .shr y_5.1.nodes,cL .shr y_5.1.next]∧σ.mem (1,7)=some [cL .shr y_14.1.nodes,cL .shr y_14.1.next])∧NoBox [(1,3),(1,7)] σ.mem) r_60
    refine loopP ({ hd:=[0,3,5,6,9],bx:=[],ex:=[0],rt:=[2] }) I_27 X_28 h_61 (by exact rfl) ?_ ?_ ?_
    ·rw [I_27_]
     exact ⟨by simp [zac,zab,h_4,h_17,h_24],NoBox.restrict (by intro k hk hb;simp at hk hb;simp [hk,hb,h_4,h_17,h_24])⟩
    ·intro s_25 σ_29 a_26 hI hp
     rw [I_27_] at hI
     obtain ⟨q_31,hn_30⟩:=hI
     try simp [h_4,h_17,h_24,q_31]
     rcases zad hp with ⟨h_32,hp⟩|⟨h_32,hp⟩
     ·try simp at h_32
      obtain ⟨e_33,h_34,hp⟩:=zaa hp
      have b_35:=at_lo h_34
      have b_36:=at_hi h_34
      try simp at b_35 b_36
      have c_37:=seg_at' h_34 0 2 (by decide) (ds:=[.sl e_33.nodes.length (encL e_33.nodes),.sl e_33.next.length (encL e_33.next)]) rfl
      try simp at c_37
      obtain ⟨e_38,h_39,hp⟩:=zaa hp
      have b_40:=at_lo h_39
      have b_41:=at_hi h_39
      try simp at b_40 b_41
      have c_42:=seg_at' h_39 0 2 (by decide) (ds:=[.sl e_38.nodes.length (encL e_38.nodes),.sl e_38.next.length (encL e_38.next)]) rfl
      try simp at c_42
      obtain ⟨y_43,h_44,hp⟩:=zaa hp
      have c_45:=C11_eq h_44
      simp at c_45
      try simp [h_4,h_17,h_24,q_31,h_32,b_35,b_36,c_37,b_40,b_41,c_42,c_45]
      rcases zad hp with ⟨h_46,hp⟩|⟨h_46,hp⟩
      ·try simp at h_46
       obtain ⟨y_47,h_48,hp⟩:=zaa hp
       have c_49:=C12_eq h_48
       simp at c_49
       try simp [h_4,h_17,h_24,q_31,h_32,h_46,c_49]
       rcases zad hp with ⟨h_50,hp⟩|⟨h_50,hp⟩
       ·try simp at h_50
        obtain ⟨e_51,h_52,hp⟩:=zaa hp
        cases Option.some.inj (h_34.symm.trans h_52)
        have b_53:=at_lo h_34
        have b_54:=at_hi h_34
        try simp at b_53 b_54
        have c_55:=seg_at' h_34 0 2 (by decide) (ds:=[.sl e_33.nodes.length (encL e_33.nodes),.sl e_33.next.length (encL e_33.next)]) rfl
        try simp at c_55
        obtain ⟨y_56,h_57,hp⟩:=zaa hp
        have c_58:=C13_eq h_57
        simp at c_58
        try simp [h_4,h_17,h_24,q_31,h_32,h_46,h_50,b_53,b_54,c_55,c_58]
        rcases zad hp with ⟨h_59,hp⟩|⟨h_59,hp⟩
        ·try simp at h_59
         cases hp
         try simp [h_4,h_17,h_24,q_31,h_32,h_46,h_50,h_59]
         refine zae ?_
         rw [I_27_]
         exact ⟨by simp [zac,zab,h_4,h_17,h_24,q_31,h_32,h_46,h_50,h_59],NoBox.restrict (by intro k hk hb;simp at hk hb;simp [hk,hb,h_4,h_17,h_24,q_31,h_32,h_46,h_50,h_59,hn_30 k (by simp [hk,hb])])⟩
        ·try simp at h_59
         cases hp
         try simp [h_4,h_17,h_24,q_31,h_32,h_46,h_50,h_59]
         refine zaq ?_
         rw [X_28_]
         exact ⟨_,rfl,by simp [zac,zab,h_4,h_17,h_24,q_31,h_32,h_46,h_50,h_59],NoBox.restrict (by intro k hk hb;simp at hk hb;simp [hk,hb,h_4,h_17,h_24,q_31,h_32,h_46,h_50,h_59,hn_30 k (by simp [hk,hb])])⟩
       ·try simp at h_50
        cases hp
        try simp [h_4,h_17,h_24,q_31,h_32,h_46,h_50]
        refine zae ?_
        rw [I_27_]
        exact ⟨by simp [zac,zab,h_4,h_17,h_24,q_31,h_32,h_46,h_50],NoBox.restrict (by intro k hk hb;simp at hk hb;simp [hk,hb,h_4,h_17,h_24,q_31,h_32,h_46,h_50,hn_30 k (by simp [hk,hb])])⟩
      ·try simp at h_46
       cases hp
       try simp [h_4,h_17,h_24,q_31,h_32,h_46]
       refine zaq ?_
       rw [X_28_]
       exact ⟨_,rfl,by simp [zac,zab,h_4,h_17,h_24,q_31,h_32,h_46],NoBox.restrict (by intro k hk hb;simp at hk hb;simp [hk,hb,h_4,h_17,h_24,q_31,h_32,h_46,hn_30 k (by simp [hk,hb])])⟩
     ·try simp at h_32
      cases hp
      try simp [h_4,h_17,h_24,q_31,h_32]
      refine zag ?_
      rw [X_28_]
      exact ⟨_,rfl,by simp [zac,zab,h_4,h_17,h_24,q_31,h_32],NoBox.restrict (by intro k hk hb;simp at hk hb;simp [hk,hb,h_4,h_17,h_24,q_31,h_32,hn_30 k (by simp [hk,hb])])⟩
    ·intro out hX
     rw [X_28_] at hX
     rcases r_60 with r_60 | r_60
     ·simp only [Sum.elim_inl,Sum.elim_inr] at hX hp
      obtain ⟨σ_62,rfl,q_64,hn_63⟩:=hX
      cases hp
      simp [Goal,FnEnd,h_4,h_17,h_24,q_64]
     ·simp only [Sum.elim_inl,Sum.elim_inr] at hX hp
      obtain ⟨σ_65,rfl,q_67,hn_66⟩:=hX
      obtain ⟨y_68,h_69,hp⟩:=zaa hp
      have c_70:=C14_eq h_69
      simp at c_70
      have n_71:=hn_66 (1,10) (by simp)
      have n_72:=hn_66 (1,11) (by simp)
      obtain ⟨y_73,h_74,hp⟩:=zaa hp
      have c_75:=C12_eq h_74
      simp at c_75
      try simp [h_4,h_17,h_24,q_67,c_70,n_71,n_72,c_75]
      rcases zad hp with ⟨h_76,hp⟩|⟨h_76,hp⟩
      ·try simp at h_76
       obtain ⟨y_77,h_78,hp⟩:=zaa hp
       have c_79:=C15_eq h_78
       simp at c_79
       try simp [h_4,h_17,h_24,q_67,h_76,c_79]
       rcases zad hp with ⟨h_80,hp⟩|⟨h_80,hp⟩
       ·try simp at h_80
        obtain ⟨y_81,h_82,hp⟩:=zaa hp
        have c_83:=C6_eq h_82
        simp at c_83
        obtain ⟨y_84,h_85,hp⟩:=zaa hp
        have c_86:=C16_eq h_85
        simp at c_86
        try simp [h_4,h_17,h_24,q_67,h_76,h_80,c_83,c_86]
        rcases zad hp with ⟨h_87,hp⟩|⟨h_87,hp⟩
        ·try simp at h_87
         obtain ⟨y_88,h_89,hp⟩:=zaa hp
         have c_90:=C6_eq h_89
         simp at c_90
         obtain ⟨y_91,h_92,hp⟩:=zaa hp
         have c_93:=C16_eq h_92
         simp at c_93
         cases hp
         simp [Goal,FnEnd,h_4,h_17,h_24,q_67,h_76,h_80,h_87,c_90,c_93]
        ·try simp at h_87
         cases hp
         simp [Goal,FnEnd,h_4,h_17,h_24,q_67,h_76,h_80,h_87]
       ·try simp at h_80
        cases hp
        simp [Goal,FnEnd,h_4,h_17,h_24,q_67,h_76,h_80]
      ·try simp at h_76
       cases hp
       simp [Goal,FnEnd,h_4,h_17,h_24,q_67,h_76]
theorem pc3:PC Try.prog 3 C3:=pc_of (g:=g3) (zah _ g3_s.2.1 ⟨pc4,pc5,pc6,pc7,pc8,pc9,pc10,pc11,pc12,pc13,pc14,pc15,pc16,trivial⟩) (ent Try.func3) fun x y h=>w3 h
end Go.Proofs

