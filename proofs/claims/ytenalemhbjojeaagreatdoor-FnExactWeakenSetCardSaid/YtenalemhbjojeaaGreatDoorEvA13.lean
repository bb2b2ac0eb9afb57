import Derived.Test.YtenalemhbjojeaaGreatDoorEvA12
set_option linter.unusedSimpArgs false
set_option linter.unusedVariables false
set_option linter.unnecessarySimpa false
noncomputable section
set_option maxHeartbeats 4000000
set_option maxRecDepth 100000
namespace Go.Proofs
open Go.Ev
def C30:List AV→Option AV:=specP (X:=TStructure × Unit) fun x=>zgb x.1
theorem C30_eq {s} {y} (h:zgb s=some y):C30 [av .shr s]=some (Res.res y):=zaf (x:=(s,())) h
def g30:Cfg:={ P:=Tryz.prog,take:=[(30,29),(30,46),(30,60)],keep:=[((30,8),{ hd:=[1,2,3,4,5],bx:=[],ex:=[2,4],rt:=[2] }),((30,12),{ hd:=[1,2,3,4,5,6],bx:=[],ex:=[1,2,3,4,5],rt:=[2] })],gho:=[],ctx:=[(32,C32),(57,C57),(58,C58),(59,C59),(60,C60),(61,C61)] }
@[simp] theorem g30_s:type_of% (cfg_s (g:=g30) rfl):=cfg_s rfl
theorem w30 {s} {y} (hp:zgb s=some y):∃ m,callo g30 0 30 [av .shr s] mem0=some (Res.res y,m):=by
 refine st0 [.cell 2 34] Tryz.func30 ?_
 unfold zgb at hp
 simp [Tryz.f30]
 rcases zad hp with ⟨h_1,hp⟩|⟨h_1,hp⟩
 ·try simp at h_1
  cases hp
  simp [Goal,FnEnd,retR,rsrc,RSrc.val,nodupR,nodup,tupPart,h_1]
 ·try simp at h_1
  obtain ⟨y_2,h_3,hp⟩:=zaa hp
  have c_4:=C58_eq h_3
  simp at c_4
  obtain ⟨y_5,h_6,hp⟩:=zaa hp
  have c_7:=C57_eq h_6
  simp at c_7
  try simp [h_1,c_4,c_7]
  rcases zad hp with ⟨h_8,hp⟩|⟨h_8,hp⟩
  ·try simp at h_8
   obtain ⟨y_9,h_10,hp⟩:=zaa hp
   have c_11:=C59_eq h_10
   simp at c_11
   try simp [h_1,h_8,c_11]
   obtain ⟨r_58,h_59,hp⟩:=zaa hp
   obtain ⟨I_14,I_14_⟩:=exV fun (s_12:Int × (List TNode) × (List Int)) (σ:St)=>(σ.env 1=uP (1,1)∧σ.env 2=uP (1,2)∧σ.env 3=uL .shr y_9∧σ.env 4=uP (1,4)∧σ.env 5=uI s_12.1∧σ.mem (1,1)=some [cL .shr s.nodes,cL .shr s.next]∧σ.mem (1,2)=some [.l .own 0 [],.l .own 0 []]∧σ.mem (1,4)=some [cL .own s_12.2.1,cL .own s_12.2.2])∧NoBox [(1,1),(1,2),(1,4)] σ.mem
   obtain ⟨X_15,X_15_⟩:=exV fun (r_58:(List TNode) × (List Int)) (out:Out)=>∃ σ:St,out=.exit 0 σ∧(σ.env 2=uP (1,2)∧σ.env 4=uP (1,4)∧σ.mem (1,1)=some [cL .shr s.nodes,cL .shr s.next]∧σ.mem (1,2)=some [.l .own 0 [],.l .own 0 []]∧σ.mem (1,4)=some [cL .own r_58.1,cL .own r_58.2])∧NoBox [(1,1),(1,2),(1,4)] σ.mem
   refine loopP ({ hd:=[1,2,3,4,5],bx:=[],ex:=[2,4],rt:=[2] }) I_14 X_15 h_59 (by exact rfl) ?_ ?_ ?_
   ·rw [I_14_]
    exact ⟨by simp [zac,zab,h_1,h_8],NoBox.restrict (by intro k hk hb;simp at hk hb;simp [hk,hb,h_1,h_8])⟩
   ·intro s_12 σ_16 a_13 hI hp
    rw [I_14_] at hI
    obtain ⟨q_18,hn_17⟩:=hI
    try simp [h_1,h_8,q_18]
    rcases zad hp with ⟨h_19,hp⟩|⟨h_19,hp⟩
    ·try simp at h_19
     obtain ⟨e_20,h_21,hp⟩:=zaa hp
     have b_22:=at_lo h_21
     have b_23:=at_hi h_21
     try simp at b_22 b_23
     have c_24:=seg_at' h_21 0 1 (by decide) (ds:=[.sl e_20.length (encL e_20)]) rfl
     try simp at c_24
     obtain ⟨y_25,h_26,hp⟩:=zaa hp
     have c_27:=C60_eq h_26
     simp at c_27
     obtain ⟨_,h_28,hp⟩:=zaa hp
     have b_29:=zbw h_28
     try simp at b_29
     try simp [h_1,h_8,q_18,h_19,b_22,b_23,c_24,c_27,b_29]
     obtain ⟨r_53,h_54,hp⟩:=zaa hp
     obtain ⟨I_32,I_32_⟩:=exV fun (s_30:Int × (List Int)) (σ:St)=>(σ.env 1=uP (1,1)∧σ.env 2=uP (1,2)∧σ.env 3=uL .shr y_9∧σ.env 4=uP (1,4)∧σ.env 5=uI s_12.1∧σ.env 6=uI s_30.1∧σ.mem (1,1)=some [cL .shr s.nodes,cL .shr s.next]∧σ.mem (1,2)=some [.l .own 0 [],.l .own 0 []]∧σ.mem (1,4)=some [cL .own (s_12.2.1 ++ [y_25]),cL .own s_30.2])∧NoBox [(1,1),(1,2),(1,4)] σ.mem
     obtain ⟨X_33,X_33_⟩:=exV fun (r_53:(List Int)) (out:Out)=>∃ σ:St,out=.exit 2 σ∧(σ.env 1=uP (1,1)∧σ.env 2=uP (1,2)∧σ.env 3=uL .shr y_9∧σ.env 4=uP (1,4)∧σ.env 5=uI s_12.1∧σ.mem (1,1)=some [cL .shr s.nodes,cL .shr s.next]∧σ.mem (1,2)=some [.l .own 0 [],.l .own 0 []]∧σ.mem (1,4)=some [cL .own (s_12.2.1 ++ [y_25]),cL .own r_53])∧NoBox [(1,1),(1,2),(1,4)] σ.mem
     refine loopP ({ hd:=[1,2,3,4,5,6],bx:=[],ex:=[1,2,3,4,5],rt:=[2] }) I_32 X_33 h_54 (by exact rfl) ?_ ?_ ?_
     ·rw [I_32_]
      exact ⟨by simp [zac,zab,h_1,h_8,q_18,h_19],NoBox.restrict (by intro k hk hb;simp at hk hb;simp [hk,hb,h_1,h_8,q_18,h_19,hn_17 k (by simp [hk,hb])])⟩
     ·intro s_30 σ_34 a_31 hI hp
      rw [I_32_] at hI
      obtain ⟨q_36,hn_35⟩:=hI
      try simp [h_1,h_8,h_19,q_36]
      rcases zad hp with ⟨h_37,hp⟩|⟨h_37,hp⟩
      ·try simp at h_37
       obtain ⟨e_38,h_39,hp⟩:=zaa hp
       cases Option.some.inj (h_21.symm.trans h_39)
       have b_40:=at_lo h_21
       have b_41:=at_hi h_21
       try simp at b_40 b_41
       have c_42:=seg_at' h_21 0 1 (by decide) (ds:=[.sl e_20.length (encL e_20)]) rfl
       try simp at c_42
       obtain ⟨e_43,h_44,hp⟩:=zaa hp
       have b_45:=at_lo h_44
       have b_46:=at_hi h_44
       try simp at b_45 b_46
       have c_47:=seg_at' h_44 0 1 (by decide) (ds:=[.sl e_43.length (encL e_43)]) rfl
       try simp at c_47
       obtain ⟨y_48,h_49,hp⟩:=zaa hp
       have c_50:=C61_eq h_49
       simp at c_50
       obtain ⟨_,h_51,hp⟩:=zaa hp
       have b_52:=zbw h_51
       try simp at b_52
       cases hp
       try simp [h_1,h_8,h_19,q_36,h_37,b_40,b_41,c_42,b_45,b_46,c_47,c_50,b_52]
       refine zag ?_
       rw [I_32_]
       exact ⟨by simp [zac,zab,h_1,h_8,h_19,q_36,h_37,b_40,b_41,c_42,b_45,b_46,c_47,c_50,b_52],NoBox.restrict (by intro k hk hb;simp at hk hb;simp [hk,hb,h_1,h_8,h_19,q_36,h_37,b_40,b_41,c_42,b_45,b_46,c_47,c_50,b_52,hn_35 k (by simp [hk,hb])])⟩
      ·try simp at h_37
       cases hp
       try simp [h_1,h_8,h_19,q_36,h_37]
       refine zak ?_
       rw [X_33_]
       exact ⟨_,rfl,by simp [zac,zab,h_1,h_8,h_19,q_36,h_37],NoBox.restrict (by intro k hk hb;simp at hk hb;simp [hk,hb,h_1,h_8,h_19,q_36,h_37,hn_35 k (by simp [hk,hb])])⟩
     ·intro out hX
      rw [X_33_] at hX
      obtain ⟨σ_55,rfl,q_57,hn_56⟩:=hX
      cases hp
      try simp [h_1,h_8,h_19,q_57]
      refine zag ?_
      rw [I_14_]
      exact ⟨by simp [zac,zab,h_1,h_8,h_19,q_57],NoBox.restrict (by intro k hk hb;simp at hk hb;simp [hk,hb,h_1,h_8,h_19,q_57,hn_56 k (by simp [hk,hb])])⟩
    ·try simp at h_19
     cases hp
     try simp [h_1,h_8,q_18,h_19]
     refine zak ?_
     rw [X_15_]
     exact ⟨_,rfl,by simp [zac,zab,h_1,h_8,q_18,h_19],NoBox.restrict (by intro k hk hb;simp at hk hb;simp [hk,hb,h_1,h_8,q_18,h_19,hn_17 k (by simp [hk,hb])])⟩
   ·intro out hX
    rw [X_15_] at hX
    obtain ⟨σ_60,rfl,q_62,hn_61⟩:=hX
    cases hp
    simp [Goal,FnEnd,retR,rsrc,RSrc.val,nodupR,nodup,tupPart,h_1,h_8,q_62]
  ·try simp at h_8
   obtain ⟨y_63,h_64,hp⟩:=zaa hp
   have c_65:=zpn h_64
   simp at c_65
   cases hp
   simp [Goal,FnEnd,retR,rsrc,RSrc.val,nodupR,nodup,tupPart,h_1,h_8,c_65]
theorem pc30:PC Tryz.prog 30 C30:=pc_of (g:=g30) (zaj _ g30_s.2.1 ⟨pc32,pc57,pc58,pc59,pc60,pc61,trivial⟩) (ent Tryz.func30) fun x y h=>w30 h

def C120:List AV→Option AV:=specP (X:=ByteArray × Unit) fun x=>zdp x.1
theorem C120_eq {s} {y} (h:zdp s=some y):C120 [av .shr s]=some (Res.res y):=zaf (x:=(s,())) h
def g120:Cfg:={ P:=Tryz.prog,take:=[],keep:=[((120,2),{ hd:=[0,3],bx:=[],ex:=[0],rt:=[2] })],gho:=[],ctx:=[(62,C62)] }
@[simp] theorem g120_s:type_of% (cfg_s (g:=g120) rfl):=cfg_s rfl
theorem w120 {s} {y} (hp:zdp s=some y):∃ m,callo g120 0 120 [av .shr s] mem0=some (Res.res y,m):=by
 refine st0 [.tmp 2] Tryz.func120 ?_
 unfold zdp at hp
 simp [Tryz.f120]
 obtain ⟨r_15,h_16,hp⟩:=zaa hp
 obtain ⟨I_3,I_3_⟩:=exV fun (s_1:Int) (σ:St)=>(σ.env 0=.one (.s (.string s))∧σ.env 3=uI s_1)∧σ.mem=mem0
 obtain ⟨X_4,X_4_⟩:=exV fun (r_15:(Unit) ⊕ (Unit)) (out:Out)=>Sum.elim (fun r_15=>∃ σ:St,out=.ret σ∧σ.env 2=uB false∧σ.mem=mem0) (fun r_15=>∃ σ:St,out=.exit 0 σ∧σ.env 0=.one (.s (.string s))∧σ.mem=mem0) r_15
 refine loopP ({ hd:=[0,3],bx:=[],ex:=[0],rt:=[2] }) I_3 X_4 h_16 (by exact rfl) ?_ ?_ ?_
 ·rw [I_3_]
  exact ⟨by simp [zac,zab],by simp [zab]⟩
 ·intro s_1 σ_5 a_2 hI hp
  rw [I_3_] at hI
  obtain ⟨q_7,q_6⟩:=hI
  try simp [q_7,q_6]
  rcases zad hp with ⟨h_8,hp⟩|⟨h_8,hp⟩
  ·try simp at h_8
   obtain ⟨e_9,h_10,hp⟩:=zaa hp
   have c_11:=idx_str Tryz.underlying9 h_10
   try simp [q_7,q_6,h_8,c_11]
   rcases zad hp with ⟨h_12,hp⟩|⟨h_12,hp⟩
   ·try simp at h_12
    cases hp
    try simp [q_7,q_6,h_8,h_12]
    refine zao ?_
    rw [X_4_]
    exact ⟨_,rfl,by simp [zac,zab,q_7,q_6,h_8,h_12],by simp [zab,q_7,q_6,h_8,h_12]⟩
   ·try simp at h_12
    obtain ⟨_,h_13,hp⟩:=zaa hp
    cases Option.some.inj (h_10.symm.trans h_13)
    try simp [q_7,q_6,h_8,h_12,c_11]
    rcases zad hp with ⟨h_14,hp⟩|⟨h_14,hp⟩
    ·try simp at h_14
     cases hp
     try simp [q_7,q_6,h_8,h_12,h_14]
     refine zao ?_
     rw [X_4_]
     exact ⟨_,rfl,by simp [zac,zab,q_7,q_6,h_8,h_12,h_14],by simp [zab,q_7,q_6,h_8,h_12,h_14]⟩
    ·try simp at h_14
     cases hp
     try simp [q_7,q_6,h_8,h_12,h_14]
     refine zag ?_
     rw [I_3_]
     exact ⟨by simp [zac,zab,q_7,q_6,h_8,h_12,h_14],by simp [zab,q_7,q_6,h_8,h_12,h_14]⟩
  ·try simp at h_8
   cases hp
   try simp [q_7,q_6,h_8]
   refine zak ?_
   rw [X_4_]
   exact ⟨_,rfl,by simp [zac,zab,q_7,q_6,h_8],by simp [zab,q_7,q_6,h_8]⟩
 ·intro out hX
  rw [X_4_] at hX
  rcases r_15 with r_15 | r_15
  ·simp only [Sum.elim_inl,Sum.elim_inr] at hX hp
   obtain ⟨σ_17,rfl,q_19,q_18⟩:=hX
   cases hp
   simp [Goal,FnEnd,q_19,q_18]
  ·simp only [Sum.elim_inl,Sum.elim_inr] at hX hp
   obtain ⟨σ_20,rfl,q_22,q_21⟩:=hX
   obtain ⟨y_23,h_24,hp⟩:=zaa hp
   have c_25:=zhy h_24
   simp at c_25
   cases hp
   simp [Goal,FnEnd,q_22,q_21,c_25]
theorem pc120:PC Tryz.prog 120 C120:=pc_of (g:=g120) (zaj _ g120_s.2.1 ⟨pc62,trivial⟩) (ent Tryz.func120) fun x y h=>w120 h

def C121:List AV→Option AV:=specP (X:=(List ByteArray) × ByteArray × Unit) fun x=>zcb x.1 x.2.1
theorem C121_eq {list s} {y} (h:zcb list s=some y):C121 [av .shr list,av .shr s]=some (Res.res y):=zaf (x:=(list,s,())) h
def g121:Cfg:={ P:=Tryz.prog,take:=[],keep:=[((121,2),{ hd:=[0,1,5],bx:=[],ex:=[],rt:=[4] })],gho:=[],ctx:=[] }
@[simp] theorem g121_s:type_of% (cfg_s (g:=g121) rfl):=cfg_s rfl
theorem w121 {list s} {y} (hp:zcb list s=some y):∃ m,callo g121 0 121 [av .shr list,av .shr s] mem0=some (Res.res y,m):=by
 refine st0 [.tmp 4] Tryz.func121 ?_
 unfold zcb at hp
 simp [Tryz.f121]
 obtain ⟨r_15,h_16,hp⟩:=zaa hp
 obtain ⟨I_3,I_3_⟩:=exV fun (s_1:Int) (σ:St)=>(σ.env 0=uL .shr list∧σ.env 1=.one (.s (.string s))∧σ.env 5=uI s_1)∧σ.mem=mem0
 obtain ⟨X_4,X_4_⟩:=exV fun (r_15:(Int) ⊕ (Unit)) (out:Out)=>Sum.elim (fun r_15=>∃ σ:St,out=.ret σ∧σ.env 4=uI r_15∧σ.mem=mem0) (fun r_15=>∃ σ:St,out=.exit 0 σ∧σ.mem=mem0) r_15
 refine loopP ({ hd:=[0,1,5],bx:=[],ex:=[],rt:=[4] }) I_3 X_4 h_16 (by exact rfl) ?_ ?_ ?_
 ·rw [I_3_]
  exact ⟨by simp [zac,zab],by simp [zab]⟩
 ·intro s_1 σ_5 a_2 hI hp
  rw [I_3_] at hI
  obtain ⟨q_7,q_6⟩:=hI
  try simp [q_7,q_6]
  rcases zad hp with ⟨h_8,hp⟩|⟨h_8,hp⟩
  ·try simp at h_8
   obtain ⟨e_9,h_10,hp⟩:=zaa hp
   have b_11:=at_lo h_10
   have b_12:=at_hi h_10
   try simp at b_11 b_12
   have c_13:=seg_at' h_10 0 1 (by decide) (ds:=[.sc (.string e_9)]) rfl
   try simp at c_13
   try simp [q_7,q_6,h_8,b_11,b_12,c_13]
   rcases zad hp with ⟨h_14,hp⟩|⟨h_14,hp⟩
   ·try simp at h_14
    cases hp
    try simp [q_7,q_6,h_8,h_14]
    refine zao ?_
    rw [X_4_]
    exact ⟨_,rfl,by simp [zac,zab,q_7,q_6,h_8,h_14],by simp [zab,q_7,q_6,h_8,h_14]⟩
   ·try simp at h_14
    cases hp
    try simp [q_7,q_6,h_8,h_14]
    refine zag ?_
    rw [I_3_]
    exact ⟨by simp [zac,zab,q_7,q_6,h_8,h_14],by simp [zab,q_7,q_6,h_8,h_14]⟩
  ·try simp at h_8
   cases hp
   try simp [q_7,q_6,h_8]
   refine zak ?_
   rw [X_4_]
   exact ⟨_,rfl,by simp [zab,q_7,q_6,h_8]⟩
 ·intro out hX
  rw [X_4_] at hX
  rcases r_15 with r_15 | r_15
  ·simp only [Sum.elim_inl,Sum.elim_inr] at hX hp
   obtain ⟨σ_17,rfl,q_19,q_18⟩:=hX
   cases hp
   simp [Goal,FnEnd,q_19,q_18]
  ·simp only [Sum.elim_inl,Sum.elim_inr] at hX hp
   obtain ⟨σ_20,rfl,q_21⟩:=hX
   cases hp
   simp [Goal,FnEnd,q_21]
theorem pc121:PC Tryz.prog 121 C121:=pc_of (g:=g121) (zaj [] rfl trivial) (ent Tryz.func121) fun x y h=>w121 h

def C85:List AV→Option AV:=specP (X:=(List ByteArray) × Unit) fun x=>zbo x.1
theorem C85_eq {list} {y} (h:zbo list=some y):C85 [av .shr list]=some (Res.res y):=zaf (x:=(list,())) h
def g85:Cfg:={ P:=Tryz.prog,take:=[],keep:=[((85,2),{ hd:=[0,3],bx:=[],ex:=[0],rt:=[2] })],gho:=[],ctx:=[(62,C62),(120,C120),(121,C121)] }
@[simp] theorem g85_s:type_of% (cfg_s (g:=g85) rfl):=cfg_s rfl
theorem w85 {list} {y} (hp:zbo list=some y):∃ m,callo g85 0 85 [av .shr list] mem0=some (Res.res y,m):=by
 refine st0 [.tmp 2] Tryz.func85 ?_
 unfold zbo at hp
 simp [Tryz.f85]
 obtain ⟨r_27,h_28,hp⟩:=zaa hp
 obtain ⟨I_3,I_3_⟩:=exV fun (s_1:Int) (σ:St)=>(σ.env 0=uL .shr list∧σ.env 3=uI s_1)∧σ.mem=mem0
 obtain ⟨X_4,X_4_⟩:=exV fun (r_27:(Unit) ⊕ (Unit)) (out:Out)=>Sum.elim (fun r_27=>∃ σ:St,out=.ret σ∧σ.env 2=uB false∧σ.mem=mem0) (fun r_27=>∃ σ:St,out=.exit 0 σ∧σ.env 0=uL .shr list∧σ.mem=mem0) r_27
 refine loopP ({ hd:=[0,3],bx:=[],ex:=[0],rt:=[2] }) I_3 X_4 h_28 (by exact rfl) ?_ ?_ ?_
 ·rw [I_3_]
  exact ⟨by simp [zac,zab],by simp [zab]⟩
 ·intro s_1 σ_5 a_2 hI hp
  rw [I_3_] at hI
  obtain ⟨q_7,q_6⟩:=hI
  try simp [q_7,q_6]
  rcases zad hp with ⟨h_8,hp⟩|⟨h_8,hp⟩
  ·try simp at h_8
   obtain ⟨e_9,h_10,hp⟩:=zaa hp
   have b_11:=at_lo h_10
   have b_12:=at_hi h_10
   try simp at b_11 b_12
   have c_13:=seg_at' h_10 0 1 (by decide) (ds:=[.sc (.string e_9)]) rfl
   try simp at c_13
   obtain ⟨y_14,h_15,hp⟩:=zaa hp
   have c_16:=C120_eq h_15
   simp at c_16
   try simp [q_7,q_6,h_8,b_11,b_12,c_13,c_16]
   rcases zad hp with ⟨h_17,hp⟩|⟨h_17,hp⟩
   ·try simp at h_17
    obtain ⟨e_18,h_19,hp⟩:=zaa hp
    cases Option.some.inj (h_10.symm.trans h_19)
    have b_20:=at_lo h_10
    have b_21:=at_hi h_10
    try simp at b_20 b_21
    have c_22:=seg_at' h_10 0 1 (by decide) (ds:=[.sc (.string e_9)]) rfl
    try simp at c_22
    obtain ⟨y_23,h_24,hp⟩:=zaa hp
    have c_25:=C121_eq h_24
    simp at c_25
    try simp [q_7,q_6,h_8,h_17,b_20,b_21,c_22,c_25]
    rcases zad hp with ⟨h_26,hp⟩|⟨h_26,hp⟩
    ·try simp at h_26
     cases hp
     try simp [q_7,q_6,h_8,h_17,h_26]
     refine zao ?_
     rw [X_4_]
     exact ⟨_,rfl,by simp [zac,zab,q_7,q_6,h_8,h_17,h_26],by simp [zab,q_7,q_6,h_8,h_17,h_26]⟩
    ·try simp at h_26
     cases hp
     try simp [q_7,q_6,h_8,h_17,h_26]
     refine zag ?_
     rw [I_3_]
     exact ⟨by simp [zac,zab,q_7,q_6,h_8,h_17,h_26],by simp [zab,q_7,q_6,h_8,h_17,h_26]⟩
   ·try simp at h_17
    cases hp
    try simp [q_7,q_6,h_8,h_17]
    refine zao ?_
    rw [X_4_]
    exact ⟨_,rfl,by simp [zac,zab,q_7,q_6,h_8,h_17],by simp [zab,q_7,q_6,h_8,h_17]⟩
  ·try simp at h_8
   cases hp
   try simp [q_7,q_6,h_8]
   refine zak ?_
   rw [X_4_]
   exact ⟨_,rfl,by simp [zac,zab,q_7,q_6,h_8],by simp [zab,q_7,q_6,h_8]⟩
 ·intro out hX
  rw [X_4_] at hX
  rcases r_27 with r_27 | r_27
  ·simp only [Sum.elim_inl,Sum.elim_inr] at hX hp
   obtain ⟨σ_29,rfl,q_31,q_30⟩:=hX
   cases hp
   simp [Goal,FnEnd,q_31,q_30]
  ·simp only [Sum.elim_inl,Sum.elim_inr] at hX hp
   obtain ⟨σ_32,rfl,q_34,q_33⟩:=hX
   obtain ⟨y_35,h_36,hp⟩:=zaa hp
   have c_37:=zhy h_36
   simp at c_37
   cases hp
   simp [Goal,FnEnd,q_34,q_33,c_37]
theorem pc85:PC Tryz.prog 85 C85:=pc_of (g:=g85) (zaj _ g85_s.2.1 ⟨pc62,pc120,pc121,trivial⟩) (ent Tryz.func85) fun x y h=>w85 h

def C122:List AV→Option AV:=specP (X:=(List Int) × Unit) fun x=>zbt x.1
theorem C122_eq {list} {y} (h:zbt list=some y):C122 [av .shr list]=some (Res.res y):=zaf (x:=(list,())) h
def g122:Cfg:={ P:=Tryz.prog,take:=[],keep:=[((122,3),{ hd:=[0,3,4],bx:=[],ex:=[3],rt:=[2] })],gho:=[],ctx:=[(118,C118)] }
@[simp] theorem g122_s:type_of% (cfg_s (g:=g122) rfl):=cfg_s rfl
theorem w122 {list} {y} (hp:zbt list=some y):∃ m,callo g122 0 122 [av .shr list] mem0=some (Res.res y,m):=by
 refine st0 [.tmp 2] Tryz.func122 ?_
 unfold zbt at hp
 simp [Tryz.f122]
 obtain ⟨r_20,h_21,hp⟩:=zaa hp
 obtain ⟨I_3,I_3_⟩:=exV fun (s_1:ByteArray × Int) (σ:St)=>(σ.env 0=uL .shr list∧σ.env 3=.one (.s (.string s_1.1))∧σ.env 4=uI s_1.2)∧σ.mem=mem0
 obtain ⟨X_4,X_4_⟩:=exV fun (r_20:ByteArray) (out:Out)=>∃ σ:St,out=.exit 0 σ∧σ.env 3=.one (.s (.string r_20))∧σ.mem=mem0
 refine loopP ({ hd:=[0,3,4],bx:=[],ex:=[3],rt:=[2] }) I_3 X_4 h_21 (by exact rfl) ?_ ?_ ?_
 ·rw [I_3_]
  exact ⟨by simp [zac,zab],by simp [zab]⟩
 ·intro s_1 σ_5 a_2 hI hp
  rw [I_3_] at hI
  obtain ⟨q_7,q_6⟩:=hI
  try simp [q_7,q_6]
  rcases zad hp with ⟨h_8,hp⟩|⟨h_8,hp⟩
  ·try simp at h_8
   obtain ⟨e_9,h_10,hp⟩:=zaa hp
   have b_11:=at_lo h_10
   have b_12:=at_hi h_10
   try simp at b_11 b_12
   have c_13:=seg_at' h_10 0 1 (by decide) (ds:=[.sc (.int .i64 e_9)]) rfl
   try simp at c_13
   obtain ⟨y_14,h_15,hp⟩:=zaa hp
   have c_16:=C118_eq h_15
   simp at c_16
   obtain ⟨z_17,h_18,hp⟩:=zaa hp
   have c_19:=zdd (P:=Tryz.prog) (t:=9) h_18
   cases hp
   try simp [q_7,q_6,h_8,b_11,b_12,c_13,c_16,c_19]
   refine zag ?_
   rw [I_3_]
   exact ⟨by simp [zac,zab,q_7,q_6,h_8,b_11,b_12,c_13,c_16,c_19],by simp [zab,q_7,q_6,h_8,b_11,b_12,c_13,c_16,c_19]⟩
  ·try simp at h_8
   cases hp
   try simp [q_7,q_6,h_8]
   refine zak ?_
   rw [X_4_]
   exact ⟨_,rfl,by simp [zac,zab,q_7,q_6,h_8],by simp [zab,q_7,q_6,h_8]⟩
 ·intro out hX
  rw [X_4_] at hX
  obtain ⟨σ_22,rfl,q_24,q_23⟩:=hX
  cases hp
  simp [Goal,FnEnd,q_24,q_23]
theorem pc122:PC Tryz.prog 122 C122:=pc_of (g:=g122) (zaj _ g122_s.2.1 ⟨pc118,trivial⟩) (ent Tryz.func122) fun x y h=>w122 h

def C86:List AV→Option AV:=specP (X:=TStructure × Int × Unit) fun x=>zef x.1 x.2.1
theorem C86_eq {s i} {y} (h:zef s i=some y):C86 [av .shr s,av .shr i]=some (Res.res y):=zaf (x:=(s,i,())) h
def g86:Cfg:={ P:=Tryz.prog,take:=[(86,44),(86,51)],keep:=[((86,7),{ hd:=[1,2,6,7,8],bx:=[],ex:=[6,7],rt:=[4] })],gho:=[],ctx:=[(83,C83),(87,C87),(118,C118),(122,C122),(123,C123)] }
@[simp] theorem g86_s:type_of% (cfg_s (g:=g86) rfl):=cfg_s rfl
theorem w86 {s i} {y} (hp:zef s i=some y):∃ m,callo g86 0 86 [av .shr s,av .shr i] mem0=some (Res.res y,m):=by
 refine st0 [.tmp 4] Tryz.func86 ?_
 unfold zef at hp
 obtain ⟨e_1,h_2,hp⟩:=zaa hp
 have b_3:=at_lo h_2
 have b_4:=at_hi h_2
 try simp at b_3 b_4
 have c_5:=seg_at' h_2 0 4 (by decide) (ds:=[.sl e_1.vars.length (encL e_1.vars),.sl e_1.reach.length (encL e_1.reach),.sc (.int .i64 e_1.shared),.sc (.int .i64 e_1.many)]) rfl
 try simp at c_5
 obtain ⟨y_6,h_7,hp⟩:=zaa hp
 have c_8:=C122_eq h_7
 simp at c_8
 obtain ⟨y_9,h_10,hp⟩:=zaa hp
 have c_11:=C122_eq h_10
 simp at c_11
 obtain ⟨z_12,h_13,hp⟩:=zaa hp
 have c_14:=zdd (P:=Tryz.prog) (t:=9) h_13
 obtain ⟨y_15,h_16,hp⟩:=zaa hp
 have c_17:=C118_eq h_16
 simp at c_17
 obtain ⟨z_18,h_19,hp⟩:=zaa hp
 have c_20:=zdd (P:=Tryz.prog) (t:=9) h_19
 simp [Tryz.f86,b_3,b_4,c_5,c_8,c_11,c_14,c_17,c_20]
 rcases zad hp with ⟨h_21,hp⟩|⟨h_21,hp⟩
 ·try simp at h_21
  obtain ⟨z_22,h_23,hp⟩:=zaa hp
  have c_24:=zdd (P:=Tryz.prog) (t:=9) h_23
  try simp [h_21,c_24]
  obtain ⟨r_51,h_52,hp⟩:=zaa hp
  obtain ⟨I_27,I_27_⟩:=exV fun (s_25:(List ByteArray) × Int) (σ:St)=>(σ.env 1=uI i∧σ.env 2=uP (1,2)∧σ.env 6=.one (.s (.string z_22))∧σ.env 7=uL .own s_25.1∧σ.env 8=uI s_25.2∧σ.mem (1,2)=some [cL .shr s.nodes,cL .shr s.next]∧σ.mem (1,5)=some [cL .shr e_1.vars,cL .shr e_1.reach,cI e_1.shared,cI e_1.many])∧NoBox [(1,2),(1,5)] σ.mem
  obtain ⟨X_28,X_28_⟩:=exV fun (r_51:(List ByteArray)) (out:Out)=>∃ σ:St,out=.exit 0 σ∧(σ.env 6=.one (.s (.string z_22))∧σ.env 7=uL .own r_51∧σ.mem (1,2)=some [cL .shr s.nodes,cL .shr s.next]∧σ.mem (1,5)=some [cL .shr e_1.vars,cL .shr e_1.reach,cI e_1.shared,cI e_1.many])∧NoBox [(1,2),(1,5)] σ.mem
  refine loopP ({ hd:=[1,2,6,7,8],bx:=[],ex:=[6,7],rt:=[4] }) I_27 X_28 h_52 (by exact rfl) ?_ ?_ ?_
  ·rw [I_27_]
   exact ⟨by simp [zac,zab,h_21],NoBox.restrict (by intro k hk hb;simp at hk hb;simp [hk,hb,h_21])⟩
  ·intro s_25 σ_29 a_26 hI hp
   rw [I_27_] at hI
   obtain ⟨q_31,hn_30⟩:=hI
   try simp [h_21,q_31]
   rcases zad hp with ⟨h_32,hp⟩|⟨h_32,hp⟩
   ·try simp at h_32
    obtain ⟨y_33,h_34,hp⟩:=zaa hp
    have c_35:=C83_eq h_34
    simp at c_35
    try simp [h_21,q_31,h_32,c_35]
    rcases zad hp with ⟨h_36,hp⟩|⟨h_36,hp⟩
    ·try simp at h_36
     obtain ⟨y_37,h_38,hp⟩:=zaa hp
     have c_39:=zsd h_38
     simp at c_39
     obtain ⟨_,h_40,hp⟩:=zaa hp
     have b_41:=zbw h_40
     try simp at b_41
     cases hp
     try simp [h_21,q_31,h_32,h_36,c_39,b_41]
     refine zag ?_
     rw [I_27_]
     exact ⟨by simp [zac,zab,h_21,q_31,h_32,h_36,c_39,b_41],NoBox.restrict (by intro k hk hb;simp at hk hb;simp [hk,hb,h_21,q_31,h_32,h_36,c_39,b_41,hn_30 k (by simp [hk,hb])])⟩
    ·try simp at h_36
     try simp [h_21,q_31,h_32,h_36]
     rcases zad hp with ⟨h_42,hp⟩|⟨h_42,hp⟩
     ·try simp at h_42
      obtain ⟨y_43,h_44,hp⟩:=zaa hp
      have c_45:=zsd h_44
      simp at c_45
      obtain ⟨z_46,h_47,hp⟩:=zaa hp
      have c_48:=zdd (P:=Tryz.prog) (t:=9) h_47
      obtain ⟨_,h_49,hp⟩:=zaa hp
      have b_50:=zbw h_49
      try simp at b_50
      cases hp
      try simp [h_21,q_31,h_32,h_36,h_42,c_45,c_48,b_50]
      refine zag ?_
      rw [I_27_]
      exact ⟨by simp [zac,zab,h_21,q_31,h_32,h_36,h_42,c_45,c_48,b_50],NoBox.restrict (by intro k hk hb;simp at hk hb;simp [hk,hb,h_21,q_31,h_32,h_36,h_42,c_45,c_48,b_50,hn_30 k (by simp [hk,hb])])⟩
     ·try simp at h_42
      cases hp
      try simp [h_21,q_31,h_32,h_36,h_42]
      refine zag ?_
      rw [I_27_]
      exact ⟨by simp [zac,zab,h_21,q_31,h_32,h_36,h_42],NoBox.restrict (by intro k hk hb;simp at hk hb;simp [hk,hb,h_21,q_31,h_32,h_36,h_42,hn_30 k (by simp [hk,hb])])⟩
   ·try simp at h_32
    cases hp
    try simp [h_21,q_31,h_32]
    refine zak ?_
    rw [X_28_]
    exact ⟨_,rfl,by simp [zac,zab,h_21,q_31,h_32],NoBox.restrict (by intro k hk hb;simp at hk hb;simp [hk,hb,h_21,q_31,h_32,hn_30 k (by simp [hk,hb])])⟩
  ·intro out hX
   rw [X_28_] at hX
   obtain ⟨σ_53,rfl,q_55,hn_54⟩:=hX
   try simp [h_21,q_55]
   rcases zad hp with ⟨h_56,hp⟩|⟨h_56,hp⟩
   ·try simp at h_56
    obtain ⟨z_57,h_58,hp⟩:=zaa hp
    have c_59:=zdd (P:=Tryz.prog) (t:=9) h_58
    obtain ⟨y_60,h_61,hp⟩:=zaa hp
    have c_62:=C87_eq h_61
    simp at c_62
    obtain ⟨z_63,h_64,hp⟩:=zaa hp
    have c_65:=zdd (P:=Tryz.prog) (t:=9) h_64
    cases hp
    simp [Goal,FnEnd,h_21,q_55,h_56,c_59,c_62,c_65]
   ·try simp at h_56
    cases hp
    simp [Goal,FnEnd,h_21,q_55,h_56]
 ·try simp at h_21
  try simp [h_21]
  obtain ⟨r_92,h_93,hp⟩:=zaa hp
  obtain ⟨I_68,I_68_⟩:=exV fun (s_66:(List ByteArray) × Int) (σ:St)=>(σ.env 1=uI i∧σ.env 2=uP (1,2)∧σ.env 6=.one (.s (.string z_18))∧σ.env 7=uL .own s_66.1∧σ.env 8=uI s_66.2∧σ.mem (1,2)=some [cL .shr s.nodes,cL .shr s.next]∧σ.mem (1,5)=some [cL .shr e_1.vars,cL .shr e_1.reach,cI e_1.shared,cI e_1.many])∧NoBox [(1,2),(1,5)] σ.mem
  obtain ⟨X_69,X_69_⟩:=exV fun (r_92:(List ByteArray)) (out:Out)=>∃ σ:St,out=.exit 0 σ∧(σ.env 6=.one (.s (.string z_18))∧σ.env 7=uL .own r_92∧σ.mem (1,2)=some [cL .shr s.nodes,cL .shr s.next]∧σ.mem (1,5)=some [cL .shr e_1.vars,cL .shr e_1.reach,cI e_1.shared,cI e_1.many])∧NoBox [(1,2),(1,5)] σ.mem
  refine loopP ({ hd:=[1,2,6,7,8],bx:=[],ex:=[6,7],rt:=[4] }) I_68 X_69 h_93 (by exact rfl) ?_ ?_ ?_
  ·rw [I_68_]
   exact ⟨by simp [zac,zab,h_21],NoBox.restrict (by intro k hk hb;simp at hk hb;simp [hk,hb,h_21])⟩
  ·intro s_66 σ_70 a_67 hI hp
   rw [I_68_] at hI
   obtain ⟨q_72,hn_71⟩:=hI
   try simp [h_21,q_72]
   rcases zad hp with ⟨h_73,hp⟩|⟨h_73,hp⟩
   ·try simp at h_73
    obtain ⟨y_74,h_75,hp⟩:=zaa hp
    have c_76:=C83_eq h_75
    simp at c_76
    try simp [h_21,q_72,h_73,c_76]
    rcases zad hp with ⟨h_77,hp⟩|⟨h_77,hp⟩
    ·try simp at h_77
     obtain ⟨y_78,h_79,hp⟩:=zaa hp
     have c_80:=zsd h_79
     simp at c_80
     obtain ⟨_,h_81,hp⟩:=zaa hp
     have b_82:=zbw h_81
     try simp at b_82
     cases hp
     try simp [h_21,q_72,h_73,h_77,c_80,b_82]
     refine zag ?_
     rw [I_68_]
     exact ⟨by simp [zac,zab,h_21,q_72,h_73,h_77,c_80,b_82],NoBox.restrict (by intro k hk hb;simp at hk hb;simp [hk,hb,h_21,q_72,h_73,h_77,c_80,b_82,hn_71 k (by simp [hk,hb])])⟩
    ·try simp at h_77
     try simp [h_21,q_72,h_73,h_77]
     rcases zad hp with ⟨h_83,hp⟩|⟨h_83,hp⟩
     ·try simp at h_83
      obtain ⟨y_84,h_85,hp⟩:=zaa hp
      have c_86:=zsd h_85
      simp at c_86
      obtain ⟨z_87,h_88,hp⟩:=zaa hp
      have c_89:=zdd (P:=Tryz.prog) (t:=9) h_88
      obtain ⟨_,h_90,hp⟩:=zaa hp
      have b_91:=zbw h_90
      try simp at b_91
      cases hp
      try simp [h_21,q_72,h_73,h_77,h_83,c_86,c_89,b_91]
      refine zag ?_
      rw [I_68_]
      exact ⟨by simp [zac,zab,h_21,q_72,h_73,h_77,h_83,c_86,c_89,b_91],NoBox.restrict (by intro k hk hb;simp at hk hb;simp [hk,hb,h_21,q_72,h_73,h_77,h_83,c_86,c_89,b_91,hn_71 k (by simp [hk,hb])])⟩
     ·try simp at h_83
      cases hp
      try simp [h_21,q_72,h_73,h_77,h_83]
      refine zag ?_
      rw [I_68_]
      exact ⟨by simp [zac,zab,h_21,q_72,h_73,h_77,h_83],NoBox.restrict (by intro k hk hb;simp at hk hb;simp [hk,hb,h_21,q_72,h_73,h_77,h_83,hn_71 k (by simp [hk,hb])])⟩
   ·try simp at h_73
    cases hp
    try simp [h_21,q_72,h_73]
    refine zak ?_
    rw [X_69_]
    exact ⟨_,rfl,by simp [zac,zab,h_21,q_72,h_73],NoBox.restrict (by intro k hk hb;simp at hk hb;simp [hk,hb,h_21,q_72,h_73,hn_71 k (by simp [hk,hb])])⟩
  ·intro out hX
   rw [X_69_] at hX
   obtain ⟨σ_94,rfl,q_96,hn_95⟩:=hX
   try simp [h_21,q_96]
   rcases zad hp with ⟨h_97,hp⟩|⟨h_97,hp⟩
   ·try simp at h_97
    obtain ⟨z_98,h_99,hp⟩:=zaa hp
    have c_100:=zdd (P:=Tryz.prog) (t:=9) h_99
    obtain ⟨y_101,h_102,hp⟩:=zaa hp
    have c_103:=C87_eq h_102
    simp at c_103
    obtain ⟨z_104,h_105,hp⟩:=zaa hp
    have c_106:=zdd (P:=Tryz.prog) (t:=9) h_105
    cases hp
    simp [Goal,FnEnd,h_21,q_96,h_97,c_100,c_103,c_106]
   ·try simp at h_97
    cases hp
    simp [Goal,FnEnd,h_21,q_96,h_97]
theorem pc86:PC Tryz.prog 86 C86:=pc_of (g:=g86) (zaj _ g86_s.2.1 ⟨pc83,pc87,pc118,pc122,pc123,trivial⟩) (ent Tryz.func86) fun x y h=>w86 h

def C63:List AV→Option AV:=specP (X:=(List ByteArray) × TStructure × Unit) fun x=>zav x.1 x.2.1
theorem C63_eq {vars s} {y} (h:zav vars s=some y):C63 [av .shr vars,av .shr s]=some (Res.res y):=zaf (x:=(vars,s,())) h
def g63:Cfg:={ P:=Tryz.prog,take:=[(63,25)],keep:=[((63,5),{ hd:=[3,5,6],bx:=[],ex:=[5],rt:=[4] })],gho:=[],ctx:=[(57,C57),(85,C85),(86,C86),(87,C87)] }
@[simp] theorem g63_s:type_of% (cfg_s (g:=g63) rfl):=cfg_s rfl
theorem w63 {vars s} {y} (hp:zav vars s=some y):∃ m,callo g63 0 63 [av .shr vars,av .shr s] mem0=some (Res.res y,m):=by
 refine st0 [.tmp 4] Tryz.func63 ?_
 unfold zav at hp
 obtain ⟨y_1,h_2,hp⟩:=zaa hp
 have c_3:=C85_eq h_2
 simp at c_3
 simp [Tryz.f63,c_3]
 rcases zad hp with ⟨h_4,hp⟩|⟨h_4,hp⟩
 ·try simp at h_4
  obtain ⟨y_5,h_6,hp⟩:=zaa hp
  have c_7:=C57_eq h_6
  simp at c_7
  try simp [h_4,c_7]
  rcases zad hp with ⟨h_8,hp⟩|⟨h_8,hp⟩
  ·try simp at h_8
   try simp [h_4,h_8]
   obtain ⟨r_22,h_23,hp⟩:=zaa hp
   obtain ⟨I_11,I_11_⟩:=exV fun (s_9:(List ByteArray) × Int) (σ:St)=>(σ.env 3=uP (1,3)∧σ.env 5=uL .own s_9.1∧σ.env 6=uI s_9.2∧σ.mem (1,3)=some [cL .shr s.nodes,cL .shr s.next])∧NoBox [(1,3)] σ.mem
   obtain ⟨X_12,X_12_⟩:=exV fun (r_22:(List ByteArray)) (out:Out)=>∃ σ:St,out=.exit 0 σ∧(σ.env 5=uL .own r_22∧σ.mem (1,3)=some [cL .shr s.nodes,cL .shr s.next])∧NoBox [(1,3)] σ.mem
   refine loopP ({ hd:=[3,5,6],bx:=[],ex:=[5],rt:=[4] }) I_11 X_12 h_23 (by exact rfl) ?_ ?_ ?_
   ·rw [I_11_]
    exact ⟨by simp [zac,zab,h_4,h_8],NoBox.restrict (by intro k hk hb;simp at hk hb;simp [hk,hb,h_4,h_8])⟩
   ·intro s_9 σ_13 a_10 hI hp
    rw [I_11_] at hI
    obtain ⟨q_15,hn_14⟩:=hI
    try simp [h_4,h_8,q_15]
    rcases zad hp with ⟨h_16,hp⟩|⟨h_16,hp⟩
    ·try simp at h_16
     obtain ⟨y_17,h_18,hp⟩:=zaa hp
     have c_19:=C86_eq h_18
     simp at c_19
     obtain ⟨_,h_20,hp⟩:=zaa hp
     have b_21:=zbw h_20
     try simp at b_21
     cases hp
     try simp [h_4,h_8,q_15,h_16,c_19,b_21]
     refine zag ?_
     rw [I_11_]
     exact ⟨by simp [zac,zab,h_4,h_8,q_15,h_16,c_19,b_21],NoBox.restrict (by intro k hk hb;simp at hk hb;simp [hk,hb,h_4,h_8,q_15,h_16,c_19,b_21,hn_14 k (by simp [hk,hb])])⟩
    ·try simp at h_16
     cases hp
     try simp [h_4,h_8,q_15,h_16]
     refine zak ?_
     rw [X_12_]
     exact ⟨_,rfl,by simp [zac,zab,h_4,h_8,q_15,h_16],NoBox.restrict (by intro k hk hb;simp at hk hb;simp [hk,hb,h_4,h_8,q_15,h_16,hn_14 k (by simp [hk,hb])])⟩
   ·intro out hX
    rw [X_12_] at hX
    obtain ⟨σ_24,rfl,q_26,hn_25⟩:=hX
    try simp [h_4,h_8,q_26]
    rcases zad hp with ⟨h_27,hp⟩|⟨h_27,hp⟩
    ·try simp at h_27
     cases hp
     simp [Goal,FnEnd,h_4,h_8,q_26,h_27]
    ·try simp at h_27
     obtain ⟨y_28,h_29,hp⟩:=zaa hp
     have c_30:=C87_eq h_29
     simp at c_30
     cases hp
     simp [Goal,FnEnd,h_4,h_8,q_26,h_27,c_30]
  ·try simp at h_8
   cases hp
   simp [Goal,FnEnd,h_4,h_8]
 ·try simp at h_4
  cases hp
  simp [Goal,FnEnd,h_4]
theorem pc63:PC Tryz.prog 63 C63:=pc_of (g:=g63) (zaj _ g63_s.2.1 ⟨pc57,pc85,pc86,pc87,trivial⟩) (ent Tryz.func63) fun x y h=>w63 h

def C31:List AV→Option AV:=specP (X:=TStructure × Unit) fun x=>zdo x.1
theorem C31_eq {s} {y} (h:zdo s=some y):C31 [av .shr s]=some (Res.res y):=zaf (x:=(s,())) h
def g31:Cfg:={ P:=Tryz.prog,take:=[],keep:=[],gho:=[],ctx:=[(58,C58),(62,C62),(63,C63)] }
@[simp] theorem g31_s:type_of% (cfg_s (g:=g31) rfl):=cfg_s rfl
theorem w31 {s} {y} (hp:zdo s=some y):∃ m,callo g31 0 31 [av .shr s] mem0=some (Res.res y,m):=by
 refine st0 [.tmp 2] Tryz.func31 ?_
 unfold zdo at hp
 simp [Tryz.f31]
 rcases zad hp with ⟨h_1,hp⟩|⟨h_1,hp⟩
 ·try simp at h_1
  cases hp
  simp [Goal,FnEnd,h_1]
 ·try simp at h_1
  obtain ⟨y_2,h_3,hp⟩:=zaa hp
  have c_4:=C58_eq h_3
  simp at c_4
  obtain ⟨y_5,h_6,hp⟩:=zaa hp
  have c_7:=zhy h_6
  simp at c_7
  try simp [h_1,c_4,c_7]
  rcases zad hp with ⟨h_8,hp⟩|⟨h_8,hp⟩
  ·try simp at h_8
   obtain ⟨z_9,h_10,hp⟩:=zaa hp
   have c_12:=slc_1 h_10
   have c_13:=slc_2 h_10
   have c_14:=slc_3 h_10
   have c_15:=slc_4 h_10
   try simp at c_12 c_13 c_14
   try simp [c_14] at c_15
   obtain ⟨y_16,h_17,hp⟩:=zaa hp
   have c_18:=C63_eq h_17
   simp at c_18
   cases hp
   simp [Goal,FnEnd,h_1,h_8,c_12,c_13,c_14,c_15,c_18]
  ·try simp at h_8
   cases hp
   simp [Goal,FnEnd,h_1,h_8]
theorem pc31:PC Tryz.prog 31 C31:=pc_of (g:=g31) (zaj _ g31_s.2.1 ⟨pc58,pc62,pc63,trivial⟩) (ent Tryz.func31) fun x y h=>w31 h

def C9:List AV→Option AV:=specP (X:=(List TStructure) × TStructure × Unit) fun x=>zcm x.1 x.2.1
theorem C9_eq {set s} {y} (h:zcm set s=some y):C9 [av .shr set,av .shr s]=some (Res.res y):=zaf (x:=(set,s,())) h
def g9:Cfg:={ P:=Tryz.prog,take:=[(9,49),(9,54),(9,64),(9,69)],keep:=[((9,6),{ hd:=[0,5,6,7,8,9],bx:=[],ex:=[0,5,6,7,8],rt:=[4] }),((9,10),{ hd:=[0,5,6,7,8,10],bx:=[],ex:=[5,6,8],rt:=[4] })],gho:=[],ctx:=[(30,C30),(31,C31),(32,C32)] }
@[simp] theorem g9_s:type_of% (cfg_s (g:=g9) rfl):=cfg_s rfl
theorem w9 {set s} {y} (hp:zcm set s=some y):∃ m,callo g9 0 9 [av .shr set,av .shr s] mem0=some (Res.res y,m):=by
 refine st0 [.tmp 4] Tryz.func9 ?_
 unfold zcm at hp
 obtain ⟨y_1,h_2,hp⟩:=zaa hp
 have c_3:=C30_eq h_2
 simp at c_3
 obtain ⟨y_4,h_5,hp⟩:=zaa hp
 have c_6:=C31_eq h_5
 simp at c_6
 simp [Tryz.f9,c_3,c_6]
 obtain ⟨r_24,h_25,hp⟩:=zaa hp
 obtain ⟨I_9,I_9_⟩:=exV fun (s_7:Bool × Int) (σ:St)=>(σ.env 0=uL .shr set∧σ.env 5=.one (.l .own 0 [])∧σ.env 6=uP (1,6)∧σ.env 7=.one (.s (.string y_4))∧σ.env 8=uB s_7.1∧σ.env 9=uI s_7.2∧σ.mem (1,3)=some [cL .shr s.nodes,cL .shr s.next]∧σ.mem (1,6)=some [cL .own y_1.nodes,cL .own y_1.next])∧NoBox [(1,3),(1,6)] σ.mem
 obtain ⟨X_10,X_10_⟩:=exV fun (r_24:Bool) (out:Out)=>∃ σ:St,out=.exit 0 σ∧(σ.env 0=uL .shr set∧σ.env 5=.one (.l .own 0 [])∧σ.env 6=uP (1,6)∧σ.env 7=.one (.s (.string y_4))∧σ.env 8=uB r_24∧σ.mem (1,3)=some [cL .shr s.nodes,cL .shr s.next]∧σ.mem (1,6)=some [cL .own y_1.nodes,cL .own y_1.next])∧NoBox [(1,3),(1,6)] σ.mem
 refine loopP ({ hd:=[0,5,6,7,8,9],bx:=[],ex:=[0,5,6,7,8],rt:=[4] }) I_9 X_10 h_25 (by exact rfl) ?_ ?_ ?_
 ·rw [I_9_]
  exact ⟨by simp [zac,zab],NoBox.restrict (by intro k hk hb;simp at hk hb;simp [hk,hb])⟩
 ·intro s_7 σ_11 a_8 hI hp
  rw [I_9_] at hI
  obtain ⟨q_13,hn_12⟩:=hI
  try simp [q_13]
  rcases zad hp with ⟨h_14,hp⟩|⟨h_14,hp⟩
  ·try simp at h_14
   try simp [q_13,h_14]
   rcases zad hp with ⟨h_15,hp⟩|⟨h_15,hp⟩
   ·try simp at h_15
    cases hp
    try simp [q_13,h_14,h_15]
    refine zag ?_
    rw [I_9_]
    exact ⟨by simp [zac,zab,q_13,h_14,h_15],NoBox.restrict (by intro k hk hb;simp at hk hb;simp [hk,hb,q_13,h_14,h_15,hn_12 k (by simp [hk,hb])])⟩
   ·try simp at h_15
    obtain ⟨e_16,h_17,hp⟩:=zaa hp
    have b_18:=at_lo h_17
    have b_19:=at_hi h_17
    try simp at b_18 b_19
    have c_20:=seg_at' h_17 0 2 (by decide) (ds:=[.sl e_16.nodes.length (encL e_16.nodes),.sl e_16.next.length (encL e_16.next)]) rfl
    try simp at c_20
    obtain ⟨y_21,h_22,hp⟩:=zaa hp
    have c_23:=C31_eq h_22
    simp at c_23
    cases hp
    try simp [q_13,h_14,h_15,b_18,b_19,c_20,c_23]
    refine zag ?_
    rw [I_9_]
    exact ⟨by simp [zac,zab,q_13,h_14,h_15,b_18,b_19,c_20,c_23],NoBox.restrict (by intro k hk hb;simp at hk hb;simp [hk,hb,q_13,h_14,h_15,b_18,b_19,c_20,c_23,hn_12 k (by simp [hk,hb])])⟩
  ·try simp at h_14
   cases hp
   try simp [q_13,h_14]
   refine zak ?_
   rw [X_10_]
   exact ⟨_,rfl,by simp [zac,zab,q_13,h_14],NoBox.restrict (by intro k hk hb;simp at hk hb;simp [hk,hb,q_13,h_14,hn_12 k (by simp [hk,hb])])⟩
 ·intro out hX
  rw [X_10_] at hX
  obtain ⟨σ_26,rfl,q_28,hn_27⟩:=hX
  try simp [q_28]
  obtain ⟨r_82,h_83,hp⟩:=zaa hp
  obtain ⟨I_31,I_31_⟩:=exV fun (s_29:(List TStructure) × Int × Bool) (σ:St)=>(σ.env 0=uL .shr set∧σ.env 5=uL .own s_29.1∧σ.env 6=uP (1,6)∧σ.env 7=.one (.s (.string y_4))∧σ.env 8=uB s_29.2.2∧σ.env 10=uI s_29.2.1∧σ.mem (1,3)=some [cL .shr s.nodes,cL .shr s.next]∧σ.mem (1,6)=some [cL .own y_1.nodes,cL .own y_1.next])∧NoBox [(1,3),(1,6)] σ.mem
  obtain ⟨X_32,X_32_⟩:=exV fun (r_82:(List TStructure) × Bool) (out:Out)=>∃ σ:St,out=.exit 2 σ∧(σ.env 5=uL .own r_82.1∧σ.env 6=uP (1,6)∧σ.env 8=uB r_82.2∧σ.mem (1,3)=some [cL .shr s.nodes,cL .shr s.next]∧σ.mem (1,6)=some [cL .own y_1.nodes,cL .own y_1.next])∧NoBox [(1,3),(1,6)] σ.mem
  refine loopP ({ hd:=[0,5,6,7,8,10],bx:=[],ex:=[5,6,8],rt:=[4] }) I_31 X_32 h_83 (by exact rfl) ?_ ?_ ?_
  ·rw [I_31_]
   exact ⟨by simp [zac,zab,q_28],NoBox.restrict (by intro k hk hb;simp at hk hb;simp [hk,hb,q_28,hn_27 k (by simp [hk,hb])])⟩
  ·intro s_29 σ_33 a_30 hI hp
   rw [I_31_] at hI
   obtain ⟨q_35,hn_34⟩:=hI
   try simp [q_35]
   rcases zad hp with ⟨h_36,hp⟩|⟨h_36,hp⟩
   ·try simp at h_36
    try simp [q_35,h_36]
    rcases zad hp with ⟨h_37,hp⟩|⟨h_37,hp⟩
    ·try simp at h_37
     obtain ⟨e_38,h_39,hp⟩:=zaa hp
     have b_40:=at_lo h_39
     have b_41:=at_hi h_39
     try simp at b_40 b_41
     have c_42:=seg_at' h_39 0 2 (by decide) (ds:=[.sl e_38.nodes.length (encL e_38.nodes),.sl e_38.next.length (encL e_38.next)]) rfl
     try simp at c_42
     obtain ⟨y_43,h_44,hp⟩:=zaa hp
     have c_45:=zpn h_44
     simp at c_45
     obtain ⟨_,h_46,hp⟩:=zaa hp
     have b_47:=zbw h_46
     try simp at b_47
     cases hp
     try simp [q_35,h_36,h_37,b_40,b_41,c_42,c_45,b_47]
     refine zag ?_
     rw [I_31_]
     exact ⟨by simp [zac,zab,q_35,h_36,h_37,b_40,b_41,c_42,c_45,b_47],NoBox.restrict (by intro k hk hb;simp at hk hb;simp [hk,hb,q_35,h_36,h_37,b_40,b_41,c_42,c_45,b_47,hn_34 k (by simp [hk,hb])])⟩
    ·try simp at h_37
     obtain ⟨e_48,h_49,hp⟩:=zaa hp
     have b_50:=at_lo h_49
     have b_51:=at_hi h_49
     try simp at b_50 b_51
     have c_52:=seg_at' h_49 0 2 (by decide) (ds:=[.sl e_48.nodes.length (encL e_48.nodes),.sl e_48.next.length (encL e_48.next)]) rfl
     try simp at c_52
     obtain ⟨y_53,h_54,hp⟩:=zaa hp
     have c_55:=C31_eq h_54
     simp at c_55
     try simp [q_35,h_36,h_37,b_50,b_51,c_52,c_55]
     rcases zad hp with ⟨h_56,hp⟩|⟨h_56,hp⟩
     ·try simp at h_56
      obtain ⟨y_57,h_58,hp⟩:=zaa hp
      have c_59:=zpn h_58
      simp at c_59
      obtain ⟨_,h_60,hp⟩:=zaa hp
      have b_61:=zbw h_60
      try simp at b_61
      obtain ⟨e_62,h_63,hp⟩:=zaa hp
      cases Option.some.inj (h_49.symm.trans h_63)
      have b_64:=at_lo h_49
      have b_65:=at_hi h_49
      try simp at b_64 b_65
      have c_66:=seg_at' h_49 0 2 (by decide) (ds:=[.sl e_48.nodes.length (encL e_48.nodes),.sl e_48.next.length (encL e_48.next)]) rfl
      try simp at c_66
      obtain ⟨y_67,h_68,hp⟩:=zaa hp
      have c_69:=zpn h_68
      simp at c_69
      obtain ⟨_,h_70,hp⟩:=zaa hp
      have b_71:=zbw h_70
      try simp at b_71
      cases hp
      try simp [q_35,h_36,h_37,h_56,c_59,b_61,b_64,b_65,c_66,c_69,b_71]
      refine zag ?_
      rw [I_31_]
      exact ⟨by simp [zac,zab,q_35,h_36,h_37,h_56,c_59,b_61,b_64,b_65,c_66,c_69,b_71],NoBox.restrict (by intro k hk hb;simp at hk hb;simp [hk,hb,q_35,h_36,h_37,h_56,c_59,b_61,b_64,b_65,c_66,c_69,b_71,hn_34 k (by simp [hk,hb])])⟩
     ·try simp at h_56
      obtain ⟨e_72,h_73,hp⟩:=zaa hp
      cases Option.some.inj (h_49.symm.trans h_73)
      have b_74:=at_lo h_49
      have b_75:=at_hi h_49
      try simp at b_74 b_75
      have c_76:=seg_at' h_49 0 2 (by decide) (ds:=[.sl e_48.nodes.length (encL e_48.nodes),.sl e_48.next.length (encL e_48.next)]) rfl
      try simp at c_76
      obtain ⟨y_77,h_78,hp⟩:=zaa hp
      have c_79:=zpn h_78
      simp at c_79
      obtain ⟨_,h_80,hp⟩:=zaa hp
      have b_81:=zbw h_80
      try simp at b_81
      cases hp
      try simp [q_35,h_36,h_37,h_56,b_74,b_75,c_76,c_79,b_81]
      refine zag ?_
      rw [I_31_]
      exact ⟨by simp [zac,zab,q_35,h_36,h_37,h_56,b_74,b_75,c_76,c_79,b_81],NoBox.restrict (by intro k hk hb;simp at hk hb;simp [hk,hb,q_35,h_36,h_37,h_56,b_74,b_75,c_76,c_79,b_81,hn_34 k (by simp [hk,hb])])⟩
   ·try simp at h_36
    cases hp
    try simp [q_35,h_36]
    refine zak ?_
    rw [X_32_]
    exact ⟨_,rfl,by simp [zac,zab,q_35,h_36],NoBox.restrict (by intro k hk hb;simp at hk hb;simp [hk,hb,q_35,h_36,hn_34 k (by simp [hk,hb])])⟩
  ·intro out hX
   rw [X_32_] at hX
   obtain ⟨σ_84,rfl,q_86,hn_85⟩:=hX
   try simp [q_86]
   rcases zad hp with ⟨h_87,hp⟩|⟨h_87,hp⟩
   ·try simp at h_87
    cases hp
    simp [Goal,FnEnd,q_86,h_87]
   ·try simp at h_87
    obtain ⟨y_88,h_89,hp⟩:=zaa hp
    have c_90:=zpn h_89
    simp at c_90
    obtain ⟨_,h_91,hp⟩:=zaa hp
    have b_92:=zbw h_91
    try simp at b_92
    cases hp
    simp [Goal,FnEnd,q_86,h_87,c_90,b_92]
theorem pc9:PC Tryz.prog 9 C9:=pc_of (g:=g9) (zaj _ g9_s.2.1 ⟨pc30,pc31,pc32,trivial⟩) (ent Tryz.func9) fun x y h=>w9 h

def C71:List AV→Option AV:=specP (X:=TNode × Unit) fun x=>zcw x.1
theorem C71_eq {x_} {y} (h:zcw x_=some y):C71 [av .shr x_]=some (Res.res y):=zaf (x:=(x_,())) h
def g71:Cfg:={ P:=Tryz.prog,take:=[],keep:=[],gho:=[],ctx:=[(77,C77)] }
@[simp] theorem g71_s:type_of% (cfg_s (g:=g71) rfl):=cfg_s rfl
theorem w71 {x_} {y} (hp:zcw x_=some y):∃ m,callo g71 0 71 [av .shr x_] mem0=some (Res.res y,m):=by
 refine st0 [.cell 2 67] Tryz.func71 ?_
 unfold zcw at hp
 obtain ⟨y_1,h_2,hp⟩:=zaa hp
 have c_3:=C77_eq h_2
 simp at c_3
 obtain ⟨y_4,h_5,hp⟩:=zaa hp
 have c_6:=C77_eq h_5
 simp at c_6
 cases hp
 simp [Tryz.f71,Goal,FnEnd,retR,rsrc,RSrc.val,nodupR,nodup,tupPart,c_3,c_6]
theorem pc71:PC Tryz.prog 71 C71:=pc_of (g:=g71) (zaj _ g71_s.2.1 ⟨pc77,trivial⟩) (ent Tryz.func71) fun x y h=>w71 h

def C50:List AV→Option AV:=specP (X:=TStructure × Unit) fun x=>zba x.1
theorem C50_eq {s} {y} (h:zba s=some y):C50 [av .shr s]=some (Res.res y):=zaf (x:=(s,())) h
def g50:Cfg:={ P:=Tryz.prog,take:=[(50,18),(50,25)],keep:=[((50,3),{ hd:=[2,3,11,12,13],bx:=[5],ex:=[2,3],rt:=[2] })],gho:=[],ctx:=[(71,C71),(77,C77)] }
@[simp] theorem g50_s:type_of% (cfg_s (g:=g50) rfl):=cfg_s rfl
theorem w50 {s} {y} (hp:zba s=some y):∃ m,callo g50 0 50 [av .shr s] mem0=some (Res.res y,m):=by
 refine st0 [.cell 2 34] Tryz.func50 ?_
 unfold zba at hp
 obtain ⟨y_1,h_2,hp⟩:=zaa hp
 have c_3:=C77_eq h_2
 simp at c_3
 simp [Tryz.f50,c_3]
 obtain ⟨r_23,h_24,hp⟩:=zaa hp
 obtain ⟨I_6,I_6_⟩:=exV fun (s_4:Int × (List TNode)) (σ:St)=>(σ.env 2=uP (1,2)∧σ.env 3=uP (1,3)∧σ.env 11=uL .shr s.nodes∧σ.env 12=uI (s.nodes.length:Int)∧σ.env 13=uI s_4.1∧σ.mem (1,1)=some [cL .shr s.nodes,cL .shr s.next]∧σ.mem (1,2)=some [.l .own 0 [],.l .own 0 []]∧σ.mem (1,3)=some [cL .own s_4.2,cL .own y_1])∧NoBox [(1,1),(1,2),(1,3)] σ.mem
 obtain ⟨X_7,X_7_⟩:=exV fun (r_23:(List TNode)) (out:Out)=>∃ σ:St,out=.exit 0 σ∧(σ.env 2=uP (1,2)∧σ.env 3=uP (1,3)∧σ.mem (1,1)=some [cL .shr s.nodes,cL .shr s.next]∧σ.mem (1,2)=some [.l .own 0 [],.l .own 0 []]∧σ.mem (1,3)=some [cL .own r_23,cL .own y_1])∧NoBox [(1,1),(1,2),(1,3)] σ.mem
 refine loopP ({ hd:=[2,3,11,12,13],bx:=[5],ex:=[2,3],rt:=[2] }) I_6 X_7 h_24 (by exact rfl) ?_ ?_ ?_
 ·rw [I_6_]
  exact ⟨by simp [zac,zab],NoBox.restrict (by intro k hk hb;simp at hk hb;simp [hk,hb])⟩
 ·intro s_4 σ_8 a_5 hI hp
  rw [I_6_] at hI
  obtain ⟨q_10,hn_9⟩:=hI
  try simp [q_10]
  rcases zad hp with ⟨h_11,hp⟩|⟨h_11,hp⟩
  ·try simp at h_11
   obtain ⟨e_12,h_13,hp⟩:=zaa hp
   have b_14:=at_lo h_13
   have b_15:=at_hi h_13
   try simp at b_14 b_15
   have c_16:=seg_at' h_13 0 4 (by decide) (ds:=[.sl e_12.vars.length (encL e_12.vars),.sl e_12.reach.length (encL e_12.reach),.sc (.int .i64 e_12.shared),.sc (.int .i64 e_12.many)]) rfl
   try simp at c_16
   have n_17:=hn_9 (1,5) (by simp)
   obtain ⟨y_18,h_19,hp⟩:=zaa hp
   have c_20:=C71_eq h_19
   simp at c_20
   obtain ⟨_,h_21,hp⟩:=zaa hp
   have b_22:=zbw h_21
   try simp at b_22
   cases hp
   try simp [q_10,h_11,b_14,b_15,c_16,n_17,c_20,b_22]
   refine zag ?_
   rw [I_6_]
   exact ⟨by simp [zac,zab,q_10,h_11,b_14,b_15,c_16,n_17,c_20,b_22],NoBox.restrict (by intro k hk hb;simp at hk hb;simp [hk,hb,q_10,h_11,b_14,b_15,c_16,n_17,c_20,b_22,hn_9 k (by simp [hk,hb])])⟩
  ·try simp at h_11
   cases hp
   try simp [q_10,h_11]
   refine zak ?_
   rw [X_7_]
   exact ⟨_,rfl,by simp [zac,zab,q_10,h_11],NoBox.restrict (by intro k hk hb;simp at hk hb;simp [hk,hb,q_10,h_11,hn_9 k (by simp [hk,hb])])⟩
 ·intro out hX
  rw [X_7_] at hX
  obtain ⟨σ_25,rfl,q_27,hn_26⟩:=hX
  cases hp
  simp [Goal,FnEnd,retR,rsrc,RSrc.val,nodupR,nodup,tupPart,q_27]
theorem pc50:PC Tryz.prog 50 C50:=pc_of (g:=g50) (zaj _ g50_s.2.1 ⟨pc71,pc77,trivial⟩) (ent Tryz.func50) fun x y h=>w50 h

def C35:List AV→Option AV:=specP (X:=(List TStructure) × Unit) fun x=>zei x.1
theorem C35_eq {set} {y} (h:zei set=some y):C35 [av .shr set]=some (Res.res y):=zaf (x:=(set,())) h
def g35:Cfg:={ P:=Tryz.prog,take:=[(35,13),(35,19)],keep:=[((35,3),{ hd:=[3,7,8,9],bx:=[5],ex:=[3],rt:=[2] })],gho:=[],ctx:=[(50,C50)] }
@[simp] theorem g35_s:type_of% (cfg_s (g:=g35) rfl):=cfg_s rfl
theorem w35 {set} {y} (hp:zei set=some y):∃ m,callo g35 0 35 [av .shr set] mem0=some (Res.res y,m):=by
 refine st0 [.tmp 2] Tryz.func35 ?_
 unfold zei at hp
 simp [Tryz.f35]
 obtain ⟨r_20,h_21,hp⟩:=zaa hp
 obtain ⟨I_3,I_3_⟩:=exV fun (s_1:(List TStructure) × Int) (σ:St)=>(σ.env 3=uL .own s_1.1∧σ.env 7=uL .shr set∧σ.env 8=uI (set.length:Int)∧σ.env 9=uI s_1.2)∧NoBox [] σ.mem
 obtain ⟨X_4,X_4_⟩:=exV fun (r_20:(List TStructure)) (out:Out)=>∃ σ:St,out=.exit 0 σ∧σ.env 3=uL .own r_20∧NoBox [] σ.mem
 refine loopP ({ hd:=[3,7,8,9],bx:=[5],ex:=[3],rt:=[2] }) I_3 X_4 h_21 (by exact rfl) ?_ ?_ ?_
 ·rw [I_3_]
  exact ⟨by simp [zac,zab],NoBox.restrict (by intro k hk hb;simp at hk hb;simp [hk,hb])⟩
 ·intro s_1 σ_5 a_2 hI hp
  rw [I_3_] at hI
  obtain ⟨q_7,hn_6⟩:=hI
  try simp [q_7]
  rcases zad hp with ⟨h_8,hp⟩|⟨h_8,hp⟩
  ·try simp at h_8
   obtain ⟨e_9,h_10,hp⟩:=zaa hp
   have b_11:=at_lo h_10
   have b_12:=at_hi h_10
   try simp at b_11 b_12
   have c_13:=seg_at' h_10 0 2 (by decide) (ds:=[.sl e_9.nodes.length (encL e_9.nodes),.sl e_9.next.length (encL e_9.next)]) rfl
   try simp at c_13
   have n_14:=hn_6 (1,5) (by simp)
   obtain ⟨y_15,h_16,hp⟩:=zaa hp
   have c_17:=C50_eq h_16
   simp at c_17
   obtain ⟨_,h_18,hp⟩:=zaa hp
   have b_19:=zbw h_18
   try simp at b_19
   cases hp
   try simp [q_7,h_8,b_11,b_12,c_13,n_14,c_17,b_19]
   refine zag ?_
   rw [I_3_]
   exact ⟨by simp [zac,zab,q_7,h_8,b_11,b_12,c_13,n_14,c_17,b_19],NoBox.restrict (by intro k hk hb;simp at hk hb;simp [hk,hb,q_7,h_8,b_11,b_12,c_13,n_14,c_17,b_19,hn_6 k (by simp [hk,hb])])⟩
  ·try simp at h_8
   cases hp
   try simp [q_7,h_8]
   refine zak ?_
   rw [X_4_]
   exact ⟨_,rfl,by simp [zac,zab,q_7,h_8],NoBox.restrict (by intro k hk hb;simp at hk hb;simp [hk,hb,q_7,h_8,hn_6 k (by simp [hk,hb])])⟩
 ·intro out hX
  rw [X_4_] at hX
  obtain ⟨σ_22,rfl,q_24,hn_23⟩:=hX
  cases hp
  simp [Goal,FnEnd,q_24]
theorem pc35:PC Tryz.prog 35 C35:=pc_of (g:=g35) (zaj _ g35_s.2.1 ⟨pc50,trivial⟩) (ent Tryz.func35) fun x y h=>w35 h

def C67:List AV→Option AV:=specP (X:=TStructure × Unit) fun x=>zcn x.1
theorem C67_eq {s} {y} (h:zcn s=some y):C67 [av .shr s]=some (Res.res y):=zaf (x:=(s,())) h
def g67:Cfg:={ P:=Tryz.prog,take:=[],keep:=[],gho:=[],ctx:=[] }
@[simp] theorem g67_s:type_of% (cfg_s (g:=g67) rfl):=cfg_s rfl
theorem w67 {s} {y} (hp:zcn s=some y):∃ m,callo g67 0 67 [av .shr s] mem0=some (Res.res y,m):=by
 refine st0 [.tmp 2] Tryz.func67 ?_
 unfold zcn at hp
 simp [Tryz.f67]
 rcases zad hp with ⟨h_1,hp⟩|⟨h_1,hp⟩
 ·try simp at h_1
  cases hp
  simp [Goal,FnEnd,h_1]
 ·try simp at h_1
  obtain ⟨e_2,h_3,hp⟩:=zaa hp
  have b_5:=at_hi h_3
  try simp at b_5
  have c_6:=seg_at' h_3 0 1 (by decide) (ds:=[.sl e_2.vars.length (encL e_2.vars)]) rfl
  try simp at c_6
  cases hp
  simp [Goal,FnEnd,h_1,b_5,c_6]
theorem pc67:PC Tryz.prog 67 C67:=pc_of (g:=g67) (zaj [] rfl trivial) (ent Tryz.func67) fun x y h=>w67 h

def C88:List AV→Option AV:=specP (X:=Int × Int × Int × Unit) fun x=>zay x.1 x.2.1 x.2.2.1
theorem zkf {n_ low high} {y} (h:zay n_ low high=some y):C88 [av .shr n_,av .shr low,av .shr high]=some (Res.res y):=zaf (x:=(n_,low,high,())) h
def g88:Cfg:={ P:=Tryz.prog,take:=[],keep:=[],gho:=[],ctx:=[] }
@[simp] theorem g88_s:type_of% (cfg_s (g:=g88) rfl):=cfg_s rfl
theorem w88 {n_ low high} {y} (hp:zay n_ low high=some y):∃ m,callo g88 0 88 [av .shr n_,av .shr low,av .shr high] mem0=some (Res.res y,m):=by
 refine st0 [.tmp 6] Tryz.func88 ?_
 unfold zay at hp
 simp [Tryz.f88]
 rcases zad hp with ⟨h_1,hp⟩|⟨h_1,hp⟩
 ·try simp at h_1
  cases hp
  simp [Goal,FnEnd,h_1]
 ·try simp at h_1
  cases hp
  simp [Goal,FnEnd,h_1]
theorem pc88:PC Tryz.prog 88 C88:=pc_of (g:=g88) (zaj [] rfl trivial) (ent Tryz.func88) fun x y h=>w88 h

def C92:List AV→Option AV:=specP (X:=Int × Unit) fun x=>zcd x.1
theorem C92_eq {a_} {y} (h:zcd a_=some y):C92 [av .shr a_]=some (Res.res y):=zaf (x:=(a_,())) h
def g92:Cfg:={ P:=Tryz.prog,take:=[],keep:=[],gho:=[],ctx:=[(88,C88)] }
@[simp] theorem g92_s:type_of% (cfg_s (g:=g92) rfl):=cfg_s rfl
theorem w92 {a_} {y} (hp:zcd a_=some y):∃ m,callo g92 0 92 [av .shr a_] mem0=some (Res.res y,m):=by
 refine st0 [.tmp 2] Tryz.func92 ?_
 unfold zcd at hp
 obtain ⟨y_1,h_2,hp⟩:=zaa hp
 have c_3:=zkf h_2
 simp at c_3
 cases hp
 simp [Tryz.f92,Goal,FnEnd,c_3]
theorem pc92:PC Tryz.prog 92 C92:=pc_of (g:=g92) (zaj _ g92_s.2.1 ⟨pc88,trivial⟩) (ent Tryz.func92) fun x y h=>w92 h

def C125:List AV→Option AV:=specP (X:=Int × Unit) fun x=>zdg x.1
def g125:Cfg:={ P:=Tryz.prog,take:=[],keep:=[],gho:=[],ctx:=[(92,C92)] }
@[simp] theorem g125_s:type_of% (cfg_s (g:=g125) rfl):=cfg_s rfl
theorem w125 {a_} {y} (hp:zdg a_=some y):∃ m,callo g125 0 125 [av .shr a_] mem0=some (Res.res y,m):=by
 refine st0 [.tmp 2] Tryz.func125 ?_
 unfold zdg at hp
 obtain ⟨y_1,h_2,hp⟩:=zaa hp
 have c_3:=C92_eq h_2
 simp at c_3
 cases hp
 simp [Tryz.f125,Goal,FnEnd,c_3]
theorem pc125:PC Tryz.prog 125 C125:=pc_of (g:=g125) (zaj _ g125_s.2.1 ⟨pc92,trivial⟩) (ent Tryz.func125) fun x y h=>w125 h

abbrev G148 (g:Cfg):Prop:=Has Tryz.prog g 148 Tryz.f148 [] [(2,{ hd:=[0,1,7,8],bx:=[],ex:=[],rt:=[4] })] [] []
theorem wI148 {g:Cfg} (G:G148 g) {d:Nat} {mem:Mem} (hT:Tight d mem)  {s:(List Int)} {f_:(Int→Option (Bool))} {m_0:Md} (hm_0:LentM m_0) {fk_f_:Nat} {caps_f_:List (Key × Nat)} (hl_f_:∀ c∈caps_f_,c.1.1≤d) (hc_f_:Clo g d mem fk_f_ caps_f_ fun x:Int × Unit=>f_ x.1) {y} (hp:zdq s f_=some y):callo g d 148 [av m_0 s,.one (.fn fk_f_ caps_f_)] mem=some (Res.res y,mem):=by
 have gP:=G.P;have gt:=G.tk;have gr:=G.ro;have gg:=G.gh
 have k_2:=G.kp (2,{ hd:=[0,1,7,8],bx:=[],ex:=[],rt:=[4] }) (by simp)
 have hT2:memKill (fun k=>decide (d < k.1)) mem=mem:=hT
 refine zgk (Tryz.f148.body.getD .skip) [.tmp 4] G Tryz.func148 (by kernel_rfl) (by simp [Tryz.ntmps148]) rfl ?_
 unfold zdq at hp
 simp [Tryz.f148,gP,gt,gr,gg,hm_0.copy,hm_0.elem]
 obtain ⟨r_18,h_19,hp⟩:=zaa hp
 obtain ⟨I_3,I_3_⟩:=exV fun (s_1:Int) (σ:St)=>(σ.env 0=uL m_0 s∧σ.env 7=uI (s.length:Int)∧σ.env 8=uI s_1)∧σ.env 1=.one (.fn fk_f_ caps_f_)∧σ.mem=mem
 obtain ⟨X_4,X_4_⟩:=exV fun (r_18:(Int) ⊕ (Unit)) (out:Out)=>Sum.elim (fun r_18=>∃ σ:St,out=.ret σ∧σ.env 4=uI r_18∧σ.mem=mem) (fun r_18=>∃ σ:St,out=.exit 0 σ∧σ.mem=mem) r_18
 refine loopP ({ hd:=[0,1,7,8],bx:=[],ex:=[],rt:=[4] }) I_3 X_4 h_19 (by exact k_2) ?_ ?_ ?_
 ·rw [I_3_]
  exact ⟨by simp [zac,zab,gP,gt,gr,gg,hm_0.copy,hm_0.elem],by simp [zac,gP,gt,gr,gg,hm_0.copy,hm_0.elem] <;> first | (intro x x1 x2 hx;have h0:=hl_f_ _ hx;simp at h0;omega) | (intro x hx;have h0:=hl_f_ _ hx;simp at h0;omega),by simp [zab,gP,gt,gr,gg,hm_0.copy,hm_0.elem]⟩
 ·intro s_1 σ_5 a_2 hI hp
  rw [I_3_] at hI
  obtain ⟨q_8,q_6,q_7⟩:=hI
  try simp [gP,gt,gr,gg,hm_0.copy,hm_0.elem,q_8,q_6,q_7]
  rcases zad hp with ⟨h_9,hp⟩|⟨h_9,hp⟩
  ·try simp at h_9
   obtain ⟨e_10,h_11,hp⟩:=zaa hp
   have b_12:=at_lo h_11
   have b_13:=at_hi h_11
   try simp at b_12 b_13
   have c_14:=seg_at' h_11 0 1 (by decide) (ds:=[.sc (.int .i64 e_10)]) rfl
   try simp at c_14
   obtain ⟨y_15,h_16,hp⟩:=zaa hp
   try simp [gP,gt,gr,gg,hm_0.copy,hm_0.elem,q_8,q_6,q_7,h_9,b_12,b_13,c_14]
   refine zfa ([av .shr e_10] ++ capsAV caps_f_) (Res.res y_15) (by simp [capsAV,gP,gt,gr,gg,hm_0.copy,hm_0.elem,q_8,q_6,q_7,h_9]) (hc_f_ _ _ _ (e_10,()) _ (Nat.le_succ d) (fun k hk=>by first | rfl | rw [q_7]) (by repeat (first | exact zeb _ | exact hT.up | exact hT | (simp only [q_8,q_6,q_7];done) | refine Tight.upd ?_ (by simp) (by simp) | refine Tight.killB ?_ | refine zev ?_)) ⟨_,_,(.inl rfl),rfl,rfl⟩ h_16) ?_
   try simp [gP,gt,gr,gg,hm_0.copy,hm_0.elem,q_8,q_6,q_7,h_9]
   rcases zad hp with ⟨h_17,hp⟩|⟨h_17,hp⟩
   ·try simp at h_17
    cases hp
    try simp [gP,gt,gr,gg,hm_0.copy,hm_0.elem,q_8,q_6,q_7,h_9,h_17]
    refine zao ?_
    rw [X_4_]
    exact ⟨_,rfl,by simp [zac,zab,gP,gt,gr,gg,hm_0.copy,hm_0.elem,q_8,q_6,q_7,h_9,h_17],by simp [zab,gP,gt,gr,gg,hm_0.copy,hm_0.elem,q_8,q_6,q_7,h_9,h_17]⟩
   ·try simp at h_17
    cases hp
    try simp [gP,gt,gr,gg,hm_0.copy,hm_0.elem,q_8,q_6,q_7,h_9,h_17]
    refine zag ?_
    rw [I_3_]
    exact ⟨by simp [zac,zab,gP,gt,gr,gg,hm_0.copy,hm_0.elem,q_8,q_6,q_7,h_9,h_17],by simp [zac,gP,gt,gr,gg,hm_0.copy,hm_0.elem,q_8,q_6,q_7,h_9,h_17] <;> first | (intro x x1 x2 hx;have h0:=hl_f_ _ hx;simp at h0;omega) | (intro x hx;have h0:=hl_f_ _ hx;simp at h0;omega),by simp [zab,gP,gt,gr,gg,hm_0.copy,hm_0.elem,q_8,q_6,q_7,h_9,h_17]⟩
  ·try simp at h_9
   cases hp
   try simp [gP,gt,gr,gg,hm_0.copy,hm_0.elem,q_8,q_6,q_7,h_9]
   refine zak ?_
   rw [X_4_]
   exact ⟨_,rfl,by simp [zab,gP,gt,gr,gg,hm_0.copy,hm_0.elem,q_8,q_6,q_7,h_9]⟩
 ·intro out hX
  rw [X_4_] at hX
  rcases r_18 with r_18 | r_18
  ·simp only [Sum.elim_inl,Sum.elim_inr] at hX hp
   obtain ⟨σ_20,rfl,q_22,q_21⟩:=hX
   cases hp
   simp [Goal,FnEndI,zbj,gP,gt,gr,gg,hm_0.copy,hm_0.elem,q_22,q_21,hT2]
  ·simp only [Sum.elim_inl,Sum.elim_inr] at hX hp
   obtain ⟨σ_23,rfl,q_24⟩:=hX
   cases hp
   simp [Goal,FnEndI,zbj,gP,gt,gr,gg,hm_0.copy,hm_0.elem,q_24,hT2]
end Go.Proofs

