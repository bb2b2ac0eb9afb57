import Derived.Test.YtenalemhbjojeaaGreatDoorEvA12
set_option linter.unusedSimpArgs false
set_option linter.unusedVariables false
set_option linter.unnecessarySimpa false
noncomputable section
set_option maxHeartbeats 4000000
set_option maxRecDepth 100000
namespace Go.Proofs
open Go.Ev
def C29:List AV→Option AV:=specP (X:=(List Int) × Int × Unit) fun x=>laws_szIntS x.1 x.2.1
theorem C29_eq {a_ left} {y} (h:laws_szIntS a_ left=some y):C29 [av .shr a_,av .shr left]=some (Res.res y):=zaf (x:=(a_,left,())) h
def g29:Cfg:={ P:=Tryz.prog,take:=[],keep:=[],gho:=[],ctx:=[] }
@[simp] theorem g29_s:type_of% (cfg_s (g:=g29) rfl):=cfg_s rfl
theorem w29 {a_ left} {y} (hp:laws_szIntS a_ left=some y):∃ m,callo g29 0 29 [av .shr a_,av .shr left] mem0=some (Res.res y,m):=by
 refine st0 [.tmp 4] Tryz.func29 ?_
 unfold laws_szIntS at hp
 simp [Tryz.f29]
 rcases zad hp with ⟨h_1,hp⟩|⟨h_1,hp⟩
 ·try simp at h_1
  cases hp
  simp [Goal,FnEnd,h_1]
 ·try simp at h_1
  cases hp
  simp [Goal,FnEnd,h_1]
theorem pc29:PC Tryz.prog 29 C29:=pc_of (g:=g29) (zah [] rfl trivial) (ent Tryz.func29) fun x y h=>w29 h

def C56:List AV→Option AV:=specP (X:=TNode × Int × Unit) fun x=>laws_szNode x.1 x.2.1
def g56:Cfg:={ P:=Tryz.prog,take:=[],keep:=[],gho:=[],ctx:=[(29,C29)] }
@[simp] theorem g56_s:type_of% (cfg_s (g:=g56) rfl):=cfg_s rfl
def C28:List AV→Option AV:=specP (X:=(List TNode) × Int × Unit) fun x=>laws_szNodeS x.1 x.2.1
def g28:Cfg:={ P:=Tryz.prog,take:=[],keep:=[((28,5),{ hd:=[0,1,5],bx:=[],ex:=[1],rt:=[4] })],gho:=[],ctx:=[(56,C56)] }
@[simp] theorem g28_s:type_of% (cfg_s (g:=g28) rfl):=cfg_s rfl
def C8:List AV→Option AV:=specP (X:=TStructure × Int × Unit) fun x=>laws_szStructure x.1 x.2.1
theorem C8_eq {a_ left} {y} (h:laws_szStructure a_ left=some y):C8 [av .shr a_,av .shr left]=some (Res.res y):=zaf (x:=(a_,left,())) h
def g8:Cfg:={ P:=Tryz.prog,take:=[],keep:=[],gho:=[],ctx:=[(28,C28),(29,C29)] }
@[simp] theorem g8_s:type_of% (cfg_s (g:=g8) rfl):=cfg_s rfl
def C7:List AV→Option AV:=specP (X:=(List TStructure) × Int × Unit) fun x=>laws_szStructureS x.1 x.2.1
theorem C7_eq {a_ left} {y} (h:laws_szStructureS a_ left=some y):C7 [av .shr a_,av .shr left]=some (Res.res y):=zaf (x:=(a_,left,())) h
def g7:Cfg:={ P:=Tryz.prog,take:=[],keep:=[((7,5),{ hd:=[0,1,5],bx:=[],ex:=[1],rt:=[4] })],gho:=[],ctx:=[(8,C8)] }
@[simp] theorem g7_s:type_of% (cfg_s (g:=g7) rfl):=cfg_s rfl
def C34:List AV→Option AV:=specP (X:=(List Int) × Unit) fun x=>laws_toIntS x.1
theorem C34_eq {a_} {y} (h:laws_toIntS a_=some y):C34 [av .shr a_]=some (Res.res y):=zaf (x:=(a_,())) h
def g34:Cfg:={ P:=Tryz.prog,take:=[(34,7)],keep:=[((34,3),{ hd:=[0,3,4],bx:=[],ex:=[3],rt:=[2] })],gho:=[((34,atEnd),[.frz (.sl 2 0)])],ctx:=[] }
@[simp] theorem g34_s:type_of% (cfg_s (g:=g34) rfl):=cfg_s rfl
theorem w34 {a_} {y} (hp:laws_toIntS a_=some y):∃ m,callo g34 0 34 [av .shr a_] mem0=some (Res.res y,m):=by
 refine st0 [.tmp 2] Tryz.func34 ?_
 unfold laws_toIntS at hp
 obtain ⟨_,h_1,hp⟩:=zab hp
 have b_2:=roomI_lo h_1
 have b_3:=roomI_ok h_1
 try simp at b_2 b_3
 have r_4:=zll (a_.length:Int).toNat (0:Int) (by rfl)
 try simp at r_4
 simp [Tryz.f34,b_2,b_3,r_4]
 obtain ⟨r_24,h_25,hp⟩:=zab hp
 obtain ⟨I_7,I_7_⟩:=exV fun (s_5:Int × (List Int)) (σ:St)=>(σ.env 0=uL .shr a_∧σ.env 3=.one (.bs (1,7) s_5.2.length 1)∧σ.env 4=uI s_5.1∧σ.mem (1,7)=some (rowC s_5.2))∧NoBox [(1,7)] σ.mem
 obtain ⟨X_8,X_8_⟩:=exV fun (r_24:(List Int)) (out:Out)=>∃ σ:St,out=.exit 0 σ∧(σ.env 3=.one (.bs (1,7) r_24.length 1)∧σ.mem (1,7)=some (rowC r_24))∧NoBox [(1,7)] σ.mem
 refine loopP ({ hd:=[0,3,4],bx:=[],ex:=[3],rt:=[2] }) I_7 X_8 h_25 (by exact rfl) ?_ ?_ ?_
 ·rw [I_7_]
  exact ⟨by simp [zac,zaa],NoBox.restrict (by intro k hk hb;simp at hk hb;simp [hk,hb])⟩
 ·intro s_5 σ_9 a_6 hI hp
  rw [I_7_] at hI
  obtain ⟨q_11,hn_10⟩:=hI
  try simp [q_11]
  rcases zad hp with ⟨h_12,hp⟩|⟨h_12,hp⟩
  ·try simp at h_12
   obtain ⟨e_13,h_14,hp⟩:=zab hp
   have b_15:=at_lo h_14
   have b_16:=at_hi h_14
   try simp at b_15 b_16
   have c_17:=seg_at' h_14 0 1 (by decide) (ds:=[.sc (.int .i64 e_13)]) rfl
   try simp at c_17
   obtain ⟨e_18,h_19,hp⟩:=zab hp
   have b_20:=at_lo h_19
   have b_21:=at_hi h_19
   try simp at b_20 b_21
   have c_22:=zpv h_19 0 e_13 [(cI e_13)] (by simp) rfl
   try simp at c_22
   have l_23:=row_room h_19 0 (m:=1) (by decide)
   try simp at l_23
   cases hp
   try simp [q_11,h_12,b_15,b_16,c_17,b_20,b_21,c_22,l_23]
   refine zag ?_
   rw [I_7_]
   exact ⟨by simp [zac,zaa,q_11,h_12,b_15,b_16,c_17,b_20,b_21,c_22,l_23],NoBox.restrict (by intro k hk hb;simp at hk hb;simp [hk,hb,q_11,h_12,b_15,b_16,c_17,b_20,b_21,c_22,l_23,hn_10 k (by simp [hk,hb])])⟩
  ·try simp at h_12
   cases hp
   try simp [q_11,h_12]
   refine zak ?_
   rw [X_8_]
   exact ⟨_,rfl,by simp [zac,zaa,q_11,h_12],NoBox.restrict (by intro k hk hb;simp at hk hb;simp [hk,hb,q_11,h_12,hn_10 k (by simp [hk,hb])])⟩
 ·intro out hX
  rw [X_8_] at hX
  obtain ⟨σ_26,rfl,q_28,hn_27⟩:=hX
  cases hp
  simp [Goal,FnEnd,q_28]
theorem pc34:PC Tryz.prog 34 C34:=pc_of (g:=g34) (zah [] rfl trivial) (ent Tryz.func34) fun x y h=>w34 h

def C65:List AV→Option AV:=specP (X:=TNode × Unit) fun x=>laws_toNode x.1
def g65:Cfg:={ P:=Tryz.prog,take:=[(65,18)],keep:=[],gho:=[],ctx:=[(34,C34)] }
@[simp] theorem g65_s:type_of% (cfg_s (g:=g65) rfl):=cfg_s rfl
def C33:List AV→Option AV:=specP (X:=(List TNode) × Unit) fun x=>laws_toNodeS x.1
def g33:Cfg:={ P:=Tryz.prog,take:=[(33,7)],keep:=[((33,3),{ hd:=[0,3,4],bx:=[],ex:=[3],rt:=[2] })],gho:=[((33,atEnd),[.frz (.sl 2 0)])],ctx:=[(65,C65)] }
@[simp] theorem g33_s:type_of% (cfg_s (g:=g33) rfl):=cfg_s rfl
def C11:List AV→Option AV:=specP (X:=TStructure × Unit) fun x=>laws_toStructure x.1
theorem C11_eq {a_} {y} (h:laws_toStructure a_=some y):C11 [av .shr a_]=some (Res.res y):=zaf (x:=(a_,())) h
def g11:Cfg:={ P:=Tryz.prog,take:=[(11,12)],keep:=[],gho:=[],ctx:=[(33,C33),(34,C34)] }
@[simp] theorem g11_s:type_of% (cfg_s (g:=g11) rfl):=cfg_s rfl
def C10:List AV→Option AV:=specP (X:=(List TStructure) × Unit) fun x=>laws_toStructureS x.1
theorem zqp {a_} {y} (h:laws_toStructureS a_=some y):C10 [av .shr a_]=some (Res.res y):=zaf (x:=(a_,())) h
def g10:Cfg:={ P:=Tryz.prog,take:=[(10,7)],keep:=[((10,3),{ hd:=[0,3,4],bx:=[],ex:=[3],rt:=[2] })],gho:=[((10,atEnd),[.frz (.sl 2 0)])],ctx:=[(11,C11)] }
@[simp] theorem g10_s:type_of% (cfg_s (g:=g10) rfl):=cfg_s rfl
def C58:List AV→Option AV:=specP (X:=TStructure × Unit) fun x=>zcy x.1
theorem C58_eq {s} {y} (h:zcy s=some y):C58 [av .shr s]=some (Res.res y):=zaf (x:=(s,())) h
def g58:Cfg:={ P:=Tryz.prog,take:=[],keep:=[],gho:=[],ctx:=[] }
@[simp] theorem g58_s:type_of% (cfg_s (g:=g58) rfl):=cfg_s rfl
theorem w58 {s} {y} (hp:zcy s=some y):∃ m,callo g58 0 58 [av .shr s] mem0=some (Res.res y,m):=by
 refine st0 [.tmp 2] Tryz.func58 ?_
 unfold zcy at hp
 simp [Tryz.f58]
 rcases zad hp with ⟨h_1,hp⟩|⟨h_1,hp⟩
 ·try simp at h_1
  cases hp
  simp [Goal,FnEnd,h_1]
 ·try simp at h_1
  obtain ⟨e_2,h_3,hp⟩:=zab hp
  have b_5:=at_hi h_3
  try simp at b_5
  have c_6:=seg_at' h_3 0 1 (by decide) (ds:=[.sl e_2.vars.length (encL e_2.vars)]) rfl
  try simp at c_6
  cases hp
  simp [Goal,FnEnd,h_1,b_5,c_6]
theorem pc58:PC Tryz.prog 58 C58:=pc_of (g:=g58) (zah [] rfl trivial) (ent Tryz.func58) fun x y h=>w58 h

def C62:List AV→Option AV:=specP (X:=Int × Int × Int × Unit) fun x=>zbe x.1 x.2.1 x.2.2.1
theorem zgz {x_ lo hi} {y} (h:zbe x_ lo hi=some y):C62 [av .shr x_,av .shr lo,av .shr hi]=some (Res.res y):=zaf (x:=(x_,lo,hi,())) h
def g62:Cfg:={ P:=Tryz.prog,take:=[],keep:=[],gho:=[],ctx:=[] }
@[simp] theorem g62_s:type_of% (cfg_s (g:=g62) rfl):=cfg_s rfl
theorem w62 {x_ lo hi} {y} (hp:zbe x_ lo hi=some y):∃ m,callo g62 0 62 [av .shr x_,av .shr lo,av .shr hi] mem0=some (Res.res y,m):=by
 refine st0 [.tmp 6] Tryz.func62 ?_
 unfold zbe at hp
 simp [Tryz.f62]
 rcases zad hp with ⟨h_1,hp⟩|⟨h_1,hp⟩
 ·try simp at h_1
  cases hp
  simp [Goal,FnEnd,h_1]
 ·try simp at h_1
  cases hp
  simp [Goal,FnEnd,h_1]
theorem pc62:PC Tryz.prog 62 C62:=pc_of (g:=g62) (zah [] rfl trivial) (ent Tryz.func62) fun x y h=>w62 h

def C81:List AV→Option AV:=specP (X:=Int × Unit) fun x=>zbm x.1
theorem C81_eq {a_} {y} (h:zbm a_=some y):C81 [av .shr a_]=some (Res.res y):=zaf (x:=(a_,())) h
def g81:Cfg:={ P:=Tryz.prog,take:=[],keep:=[],gho:=[],ctx:=[(62,C62)] }
@[simp] theorem g81_s:type_of% (cfg_s (g:=g81) rfl):=cfg_s rfl
theorem w81 {a_} {y} (hp:zbm a_=some y):∃ m,callo g81 0 81 [av .shr a_] mem0=some (Res.res y,m):=by
 refine st0 [.tmp 2] Tryz.func81 ?_
 unfold zbm at hp
 obtain ⟨y_1,h_2,hp⟩:=zab hp
 have c_3:=zgz h_2
 simp at c_3
 cases hp
 simp [Tryz.f81,Goal,FnEnd,c_3]
theorem pc81:PC Tryz.prog 81 C81:=pc_of (g:=g81) (zah _ g81_s.2.1 ⟨pc62,trivial⟩) (ent Tryz.func81) fun x y h=>w81 h

def C80:List AV→Option AV:=specP (X:=(List Int) × Unit) fun x=>zct x.1
theorem C80_eq {list} {y} (h:zct list=some y):C80 [av .shr list]=some (Res.res y):=zaf (x:=(list,())) h
def g80:Cfg:={ P:=Tryz.prog,take:=[],keep:=[((80,2),{ hd:=[0,3],bx:=[],ex:=[],rt:=[2] })],gho:=[],ctx:=[(81,C81)] }
@[simp] theorem g80_s:type_of% (cfg_s (g:=g80) rfl):=cfg_s rfl
theorem w80 {list} {y} (hp:zct list=some y):∃ m,callo g80 0 80 [av .shr list] mem0=some (Res.res y,m):=by
 refine st0 [.tmp 2] Tryz.func80 ?_
 unfold zct at hp
 simp [Tryz.f80]
 obtain ⟨r_18,h_19,hp⟩:=zab hp
 obtain ⟨I_3,I_3_⟩:=exV fun (s_1:Int) (σ:St)=>(σ.env 0=uL .shr list∧σ.env 3=uI s_1)∧σ.mem=mem0
 obtain ⟨X_4,X_4_⟩:=exV fun (r_18:(Unit) ⊕ (Unit)) (out:Out)=>Sum.elim (fun r_18=>∃ σ:St,out=.ret σ∧σ.env 2=uB false∧σ.mem=mem0) (fun r_18=>∃ σ:St,out=.exit 0 σ∧σ.mem=mem0) r_18
 refine loopP ({ hd:=[0,3],bx:=[],ex:=[],rt:=[2] }) I_3 X_4 h_19 (by exact rfl) ?_ ?_ ?_
 ·rw [I_3_]
  exact ⟨by simp [zac,zaa],by simp [zaa]⟩
 ·intro s_1 σ_5 a_2 hI hp
  rw [I_3_] at hI
  obtain ⟨q_7,q_6⟩:=hI
  try simp [q_7,q_6]
  rcases zad hp with ⟨h_8,hp⟩|⟨h_8,hp⟩
  ·try simp at h_8
   obtain ⟨e_9,h_10,hp⟩:=zab hp
   have b_11:=at_lo h_10
   have b_12:=at_hi h_10
   try simp at b_11 b_12
   have c_13:=seg_at' h_10 0 1 (by decide) (ds:=[.sc (.int .i64 e_9)]) rfl
   try simp at c_13
   obtain ⟨y_14,h_15,hp⟩:=zab hp
   have c_16:=C81_eq h_15
   simp at c_16
   try simp [q_7,q_6,h_8,b_11,b_12,c_13,c_16]
   rcases zad hp with ⟨h_17,hp⟩|⟨h_17,hp⟩
   ·try simp at h_17
    cases hp
    try simp [q_7,q_6,h_8,h_17]
    refine zag ?_
    rw [I_3_]
    exact ⟨by simp [zac,zaa,q_7,q_6,h_8,h_17],by simp [zaa,q_7,q_6,h_8,h_17]⟩
   ·try simp at h_17
    cases hp
    try simp [q_7,q_6,h_8,h_17]
    refine zal ?_
    rw [X_4_]
    exact ⟨_,rfl,by simp [zac,zaa,q_7,q_6,h_8,h_17],by simp [zaa,q_7,q_6,h_8,h_17]⟩
  ·try simp at h_8
   cases hp
   try simp [q_7,q_6,h_8]
   refine zak ?_
   rw [X_4_]
   exact ⟨_,rfl,by simp [zaa,q_7,q_6,h_8]⟩
 ·intro out hX
  rw [X_4_] at hX
  rcases r_18 with r_18 | r_18
  ·simp only [Sum.elim_inl,Sum.elim_inr] at hX hp
   obtain ⟨σ_20,rfl,q_22,q_21⟩:=hX
   cases hp
   simp [Goal,FnEnd,q_22,q_21]
  ·simp only [Sum.elim_inl,Sum.elim_inr] at hX hp
   obtain ⟨σ_23,rfl,q_24⟩:=hX
   cases hp
   simp [Goal,FnEnd,q_24]
theorem pc80:PC Tryz.prog 80 C80:=pc_of (g:=g80) (zah _ g80_s.2.1 ⟨pc81,trivial⟩) (ent Tryz.func80) fun x y h=>w80 h

def C57:List AV→Option AV:=specP (X:=Int × TStructure × Unit) fun x=>zcg x.1 x.2.1
theorem C57_eq {vars s} {y} (h:zcg vars s=some y):C57 [av .shr vars,av .shr s]=some (Res.res y):=zaf (x:=(vars,s,())) h
def g57:Cfg:={ P:=Tryz.prog,take:=[],keep:=[((57,3),{ hd:=[0,3,5,6],bx:=[7],ex:=[0,3,5],rt:=[4] })],gho:=[],ctx:=[(62,C62),(80,C80),(81,C81)] }
@[simp] theorem g57_s:type_of% (cfg_s (g:=g57) rfl):=cfg_s rfl
theorem w57 {vars s} {y} (hp:zcg vars s=some y):∃ m,callo g57 0 57 [av .shr vars,av .shr s] mem0=some (Res.res y,m):=by
 refine st0 [.tmp 4] Tryz.func57 ?_
 unfold zcg at hp
 simp [Tryz.f57]
 obtain ⟨r_33,h_34,hp⟩:=zab hp
 obtain ⟨I_3,I_3_⟩:=exV fun (s_1:Int) (σ:St)=>(σ.env 0=uI vars∧σ.env 3=uP (1,3)∧σ.env 5=uI (s.nodes.length:Int)∧σ.env 6=uI s_1∧σ.mem (1,3)=some [cL .shr s.nodes,cL .shr s.next])∧NoBox [(1,3)] σ.mem
 obtain ⟨X_4,X_4_⟩:=exV fun (r_33:(Unit) ⊕ (Unit)) (out:Out)=>Sum.elim (fun r_33=>∃ σ:St,out=.ret σ∧(σ.env 4=uB false∧σ.mem (1,3)=some [cL .shr s.nodes,cL .shr s.next])∧NoBox [(1,3)] σ.mem) (fun r_33=>∃ σ:St,out=.exit 0 σ∧(σ.env 0=uI vars∧σ.env 3=uP (1,3)∧σ.env 5=uI (s.nodes.length:Int)∧σ.mem (1,3)=some [cL .shr s.nodes,cL .shr s.next])∧NoBox [(1,3)] σ.mem) r_33
 refine loopP ({ hd:=[0,3,5,6],bx:=[7],ex:=[0,3,5],rt:=[4] }) I_3 X_4 h_34 (by exact rfl) ?_ ?_ ?_
 ·rw [I_3_]
  exact ⟨by simp [zac,zaa],NoBox.restrict (by intro k hk hb;simp at hk hb;simp [hk,hb])⟩
 ·intro s_1 σ_5 a_2 hI hp
  rw [I_3_] at hI
  obtain ⟨q_7,hn_6⟩:=hI
  try simp [q_7]
  rcases zad hp with ⟨h_8,hp⟩|⟨h_8,hp⟩
  ·try simp at h_8
   obtain ⟨e_9,h_10,hp⟩:=zab hp
   have b_11:=at_lo h_10
   have b_12:=at_hi h_10
   try simp at b_11 b_12
   have c_13:=seg_at' h_10 0 4 (by decide) (ds:=[.sl e_9.vars.length (encL e_9.vars),.sl e_9.reach.length (encL e_9.reach),.sc (.int .i64 e_9.shared),.sc (.int .i64 e_9.many)]) rfl
   try simp at c_13
   have n_14:=hn_6 (1,7) (by simp)
   try simp [q_7,h_8,b_11,b_12,c_13,n_14]
   rcases zad hp with ⟨h_15,hp⟩|⟨h_15,hp⟩
   ·try simp at h_15
    cases hp
    try simp [q_7,h_8,h_15]
    refine zal ?_
    rw [X_4_]
    exact ⟨_,rfl,by simp [zac,zaa,q_7,h_8,h_15],NoBox.restrict (by intro k hk hb;simp at hk hb;simp [hk,hb,q_7,h_8,h_15,hn_6 k (by simp [hk,hb])])⟩
   ·try simp at h_15
    try simp [q_7,h_8,h_15]
    rcases zad hp with ⟨h_16,hp⟩|⟨h_16,hp⟩
    ·try simp at h_16
     cases hp
     try simp [q_7,h_8,h_15,h_16]
     refine zal ?_
     rw [X_4_]
     exact ⟨_,rfl,by simp [zac,zaa,q_7,h_8,h_15,h_16],NoBox.restrict (by intro k hk hb;simp at hk hb;simp [hk,hb,q_7,h_8,h_15,h_16,hn_6 k (by simp [hk,hb])])⟩
    ·try simp at h_16
     obtain ⟨y_17,h_18,hp⟩:=zab hp
     have c_19:=C80_eq h_18
     simp at c_19
     try simp [q_7,h_8,h_15,h_16,c_19]
     rcases zad hp with ⟨h_20,hp⟩|⟨h_20,hp⟩
     ·try simp at h_20
      obtain ⟨y_21,h_22,hp⟩:=zab hp
      have c_23:=C80_eq h_22
      simp at c_23
      try simp [q_7,h_8,h_15,h_16,h_20,c_23]
      rcases zad hp with ⟨h_24,hp⟩|⟨h_24,hp⟩
      ·try simp at h_24
       obtain ⟨y_25,h_26,hp⟩:=zab hp
       have c_27:=C81_eq h_26
       simp at c_27
       try simp [q_7,h_8,h_15,h_16,h_20,h_24,c_27]
       rcases zad hp with ⟨h_28,hp⟩|⟨h_28,hp⟩
       ·try simp at h_28
        obtain ⟨y_29,h_30,hp⟩:=zab hp
        have c_31:=zgz h_30
        simp at c_31
        try simp [q_7,h_8,h_15,h_16,h_20,h_24,h_28,c_31]
        rcases zad hp with ⟨h_32,hp⟩|⟨h_32,hp⟩
        ·try simp at h_32
         cases hp
         try simp [q_7,h_8,h_15,h_16,h_20,h_24,h_28,h_32]
         refine zag ?_
         rw [I_3_]
         exact ⟨by simp [zac,zaa,q_7,h_8,h_15,h_16,h_20,h_24,h_28,h_32],NoBox.restrict (by intro k hk hb;simp at hk hb;simp [hk,hb,q_7,h_8,h_15,h_16,h_20,h_24,h_28,h_32,hn_6 k (by simp [hk,hb])])⟩
        ·try simp at h_32
         cases hp
         try simp [q_7,h_8,h_15,h_16,h_20,h_24,h_28,h_32]
         refine zal ?_
         rw [X_4_]
         exact ⟨_,rfl,by simp [zac,zaa,q_7,h_8,h_15,h_16,h_20,h_24,h_28,h_32],NoBox.restrict (by intro k hk hb;simp at hk hb;simp [hk,hb,q_7,h_8,h_15,h_16,h_20,h_24,h_28,h_32,hn_6 k (by simp [hk,hb])])⟩
       ·try simp at h_28
        cases hp
        try simp [q_7,h_8,h_15,h_16,h_20,h_24,h_28]
        refine zal ?_
        rw [X_4_]
        exact ⟨_,rfl,by simp [zac,zaa,q_7,h_8,h_15,h_16,h_20,h_24,h_28],NoBox.restrict (by intro k hk hb;simp at hk hb;simp [hk,hb,q_7,h_8,h_15,h_16,h_20,h_24,h_28,hn_6 k (by simp [hk,hb])])⟩
      ·try simp at h_24
       cases hp
       try simp [q_7,h_8,h_15,h_16,h_20,h_24]
       refine zal ?_
       rw [X_4_]
       exact ⟨_,rfl,by simp [zac,zaa,q_7,h_8,h_15,h_16,h_20,h_24],NoBox.restrict (by intro k hk hb;simp at hk hb;simp [hk,hb,q_7,h_8,h_15,h_16,h_20,h_24,hn_6 k (by simp [hk,hb])])⟩
     ·try simp at h_20
      cases hp
      try simp [q_7,h_8,h_15,h_16,h_20]
      refine zal ?_
      rw [X_4_]
      exact ⟨_,rfl,by simp [zac,zaa,q_7,h_8,h_15,h_16,h_20],NoBox.restrict (by intro k hk hb;simp at hk hb;simp [hk,hb,q_7,h_8,h_15,h_16,h_20,hn_6 k (by simp [hk,hb])])⟩
  ·try simp at h_8
   cases hp
   try simp [q_7,h_8]
   refine zak ?_
   rw [X_4_]
   exact ⟨_,rfl,by simp [zac,zaa,q_7,h_8],NoBox.restrict (by intro k hk hb;simp at hk hb;simp [hk,hb,q_7,h_8,hn_6 k (by simp [hk,hb])])⟩
 ·intro out hX
  rw [X_4_] at hX
  rcases r_33 with r_33 | r_33
  ·simp only [Sum.elim_inl,Sum.elim_inr] at hX hp
   obtain ⟨σ_35,rfl,q_37,hn_36⟩:=hX
   cases hp
   simp [Goal,FnEnd,q_37]
  ·simp only [Sum.elim_inl,Sum.elim_inr] at hX hp
   obtain ⟨σ_38,rfl,q_40,hn_39⟩:=hX
   obtain ⟨y_41,h_42,hp⟩:=zab hp
   have c_43:=zgz h_42
   simp at c_43
   try simp [q_40,c_43]
   rcases zad hp with ⟨h_44,hp⟩|⟨h_44,hp⟩
   ·try simp at h_44
    try simp [q_40,h_44]
    rcases zad hp with ⟨h_45,hp⟩|⟨h_45,hp⟩
    ·try simp at h_45
     try simp [q_40,h_44,h_45]
     rcases zad hp with ⟨h_46,hp⟩|⟨h_46,hp⟩
     ·try simp at h_46
      obtain ⟨y_47,h_48,hp⟩:=zab hp
      have c_49:=C80_eq h_48
      simp at c_49
      cases hp
      simp [Goal,FnEnd,q_40,h_44,h_45,h_46,c_49]
     ·try simp at h_46
      cases hp
      simp [Goal,FnEnd,q_40,h_44,h_45,h_46]
    ·try simp at h_45
     cases hp
     simp [Goal,FnEnd,q_40,h_44,h_45]
   ·try simp at h_44
    cases hp
    simp [Goal,FnEnd,q_40,h_44]
theorem pc57:PC Tryz.prog 57 C57:=pc_of (g:=g57) (zah _ g57_s.2.1 ⟨pc62,pc80,pc81,trivial⟩) (ent Tryz.func57) fun x y h=>w57 h

def C64:List AV→Option AV:=specP (X:=TNode × Unit) fun x=>zcf x.1
theorem C64_eq {x_} {y} (h:zcf x_=some y):C64 [av .shr x_]=some (Res.res y):=zaf (x:=(x_,())) h
def g64:Cfg:={ P:=Tryz.prog,take:=[],keep:=[],gho:=[],ctx:=[] }
@[simp] theorem g64_s:type_of% (cfg_s (g:=g64) rfl):=cfg_s rfl
theorem w64 {x_} {y} (hp:zcf x_=some y):∃ m,callo g64 0 64 [av .shr x_] mem0=some (Res.res y,m):=by
 refine st0 [.cell 2 67] Tryz.func64 ?_
 unfold zcf at hp
 obtain ⟨_,h_1,hp⟩:=zab hp
 have b_2:=zav h_1
 try simp at b_2
 obtain ⟨_,h_3,hp⟩:=zab hp
 have b_4:=zav h_3
 try simp at b_4
 cases hp
 simp [Tryz.f64,Goal,FnEnd,retR,rsrc,RSrc.val,nodupR,nodup,tupPart,b_2,b_4]
theorem pc64:PC Tryz.prog 64 C64:=pc_of (g:=g64) (zah [] rfl trivial) (ent Tryz.func64) fun x y h=>w64 h

def C32:List AV→Option AV:=specP (X:=TStructure × Unit) fun x=>zbt x.1
theorem zqo {s} {y} (h:zbt s=some y):C32 [av .shr s]=some (Res.res y):=zaf (x:=(s,())) h
def g32:Cfg:={ P:=Tryz.prog,take:=[(32,18),(32,28)],keep:=[((32,3),{ hd:=[1,2,3,4],bx:=[],ex:=[2,3],rt:=[2] })],gho:=[],ctx:=[(64,C64)] }
@[simp] theorem g32_s:type_of% (cfg_s (g:=g32) rfl):=cfg_s rfl
theorem w32 {s} {y} (hp:zbt s=some y):∃ m,callo g32 0 32 [av .shr s] mem0=some (Res.res y,m):=by
 refine st0 [.cell 2 34] Tryz.func32 ?_
 unfold zbt at hp
 obtain ⟨_,h_1,hp⟩:=zab hp
 have b_2:=zav h_1
 try simp at b_2
 simp [Tryz.f32,b_2]
 obtain ⟨r_21,h_22,hp⟩:=zab hp
 obtain ⟨I_5,I_5_⟩:=exV fun (s_3:Int × (List TNode)) (σ:St)=>(σ.env 1=uP (1,1)∧σ.env 2=uP (1,2)∧σ.env 3=uP (1,3)∧σ.env 4=uI s_3.1∧σ.mem (1,1)=some [cL .shr s.nodes,cL .shr s.next]∧σ.mem (1,2)=some [.l .own 0 [],.l .own 0 []]∧σ.mem (1,3)=some [cL .own s_3.2,cL .own s.next])∧NoBox [(1,1),(1,2),(1,3)] σ.mem
 obtain ⟨X_6,X_6_⟩:=exV fun (r_21:(List TNode)) (out:Out)=>∃ σ:St,out=.exit 0 σ∧(σ.env 2=uP (1,2)∧σ.env 3=uP (1,3)∧σ.mem (1,1)=some [cL .shr s.nodes,cL .shr s.next]∧σ.mem (1,2)=some [.l .own 0 [],.l .own 0 []]∧σ.mem (1,3)=some [cL .own r_21,cL .own s.next])∧NoBox [(1,1),(1,2),(1,3)] σ.mem
 refine loopP ({ hd:=[1,2,3,4],bx:=[],ex:=[2,3],rt:=[2] }) I_5 X_6 h_22 (by exact rfl) ?_ ?_ ?_
 ·rw [I_5_]
  exact ⟨by simp [zac,zaa],NoBox.restrict (by intro k hk hb;simp at hk hb;simp [hk,hb])⟩
 ·intro s_3 σ_7 a_4 hI hp
  rw [I_5_] at hI
  obtain ⟨q_9,hn_8⟩:=hI
  try simp [q_9]
  rcases zad hp with ⟨h_10,hp⟩|⟨h_10,hp⟩
  ·try simp at h_10
   obtain ⟨e_11,h_12,hp⟩:=zab hp
   have b_13:=at_lo h_12
   have b_14:=at_hi h_12
   try simp at b_13 b_14
   have c_15:=seg_at' h_12 0 4 (by decide) (ds:=[.sl e_11.vars.length (encL e_11.vars),.sl e_11.reach.length (encL e_11.reach),.sc (.int .i64 e_11.shared),.sc (.int .i64 e_11.many)]) rfl
   try simp at c_15
   obtain ⟨y_16,h_17,hp⟩:=zab hp
   have c_18:=C64_eq h_17
   simp at c_18
   obtain ⟨_,h_19,hp⟩:=zab hp
   have b_20:=zav h_19
   try simp at b_20
   cases hp
   try simp [q_9,h_10,b_13,b_14,c_15,c_18,b_20]
   refine zag ?_
   rw [I_5_]
   exact ⟨by simp [zac,zaa,q_9,h_10,b_13,b_14,c_15,c_18,b_20],NoBox.restrict (by intro k hk hb;simp at hk hb;simp [hk,hb,q_9,h_10,b_13,b_14,c_15,c_18,b_20,hn_8 k (by simp [hk,hb])])⟩
  ·try simp at h_10
   cases hp
   try simp [q_9,h_10]
   refine zak ?_
   rw [X_6_]
   exact ⟨_,rfl,by simp [zac,zaa,q_9,h_10],NoBox.restrict (by intro k hk hb;simp at hk hb;simp [hk,hb,q_9,h_10,hn_8 k (by simp [hk,hb])])⟩
 ·intro out hX
  rw [X_6_] at hX
  obtain ⟨σ_23,rfl,q_25,hn_24⟩:=hX
  cases hp
  simp [Goal,FnEnd,retR,rsrc,RSrc.val,nodupR,nodup,tupPart,q_25]
theorem pc32:PC Tryz.prog 32 C32:=pc_of (g:=g32) (zah _ g32_s.2.1 ⟨pc64,trivial⟩) (ent Tryz.func32) fun x y h=>w32 h

def C117:List AV→Option AV:=specP (X:=TStructure × Unit) fun x=>zbj x.1
theorem C117_eq {s} {y} (h:zbj s=some y):C117 [av .shr s]=some (Res.res y):=zaf (x:=(s,())) h
def g117:Cfg:={ P:=Tryz.prog,take:=[],keep:=[],gho:=[],ctx:=[(58,C58)] }
@[simp] theorem g117_s:type_of% (cfg_s (g:=g117) rfl):=cfg_s rfl
theorem w117 {s} {y} (hp:zbj s=some y):∃ m,callo g117 0 117 [av .shr s] mem0=some (Res.res y,m):=by
 refine st0 [.tmp 2] Tryz.func117 ?_
 unfold zbj at hp
 simp [Tryz.f117]
 rcases zad hp with ⟨h_1,hp⟩|⟨h_1,hp⟩
 ·try simp at h_1
  cases hp
  simp [Goal,FnEnd,h_1]
 ·try simp at h_1
  obtain ⟨y_2,h_3,hp⟩:=zab hp
  have c_4:=C58_eq h_3
  simp at c_4
  cases hp
  simp [Goal,FnEnd,h_1,c_4]
theorem pc117:PC Tryz.prog 117 C117:=pc_of (g:=g117) (zah _ g117_s.2.1 ⟨pc58,trivial⟩) (ent Tryz.func117) fun x y h=>w117 h

def C147:List AV→Option AV:=specP (X:=(List Int) × Int × Unit) fun x=>zga x.1 x.2.1
theorem C147_eq {list k_} {y} (h:zga list k_=some y):C147 [av .shr list,av .shr k_]=some (Res.res y):=zaf (x:=(list,k_,())) h
def g147:Cfg:={ P:=Tryz.prog,take:=[],keep:=[],gho:=[],ctx:=[(62,C62)] }
@[simp] theorem g147_s:type_of% (cfg_s (g:=g147) rfl):=cfg_s rfl
theorem w147 {list k_} {y} (hp:zga list k_=some y):∃ m,callo g147 0 147 [av .shr list,av .shr k_] mem0=some (Res.res y,m):=by
 refine st0 [.tmp 4] Tryz.func147 ?_
 unfold zga at hp
 obtain ⟨y_1,h_2,hp⟩:=zab hp
 have c_3:=zgz h_2
 simp at c_3
 simp [Tryz.f147,c_3]
 rcases zad hp with ⟨h_4,hp⟩|⟨h_4,hp⟩
 ·try simp at h_4
  obtain ⟨e_5,h_6,hp⟩:=zab hp
  have b_7:=at_lo h_6
  have b_8:=at_hi h_6
  try simp at b_7 b_8
  have c_9:=seg_at' h_6 0 1 (by decide) (ds:=[.sc (.int .i64 e_5)]) rfl
  try simp at c_9
  cases hp
  simp [Goal,FnEnd,h_4,b_7,b_8,c_9]
 ·try simp at h_4
  cases hp
  simp [Goal,FnEnd,h_4]
theorem pc147:PC Tryz.prog 147 C147:=pc_of (g:=g147) (zah _ g147_s.2.1 ⟨pc62,trivial⟩) (ent Tryz.func147) fun x y h=>w147 h

def C119:List AV→Option AV:=specP (X:=TStructure × Int × Int × Unit) fun x=>zdd x.1 x.2.1 x.2.2.1
theorem C119_eq {s k_ i} {y} (h:zdd s k_ i=some y):C119 [av .shr s,av .shr k_,av .shr i]=some (Res.res y):=zaf (x:=(s,k_,i,())) h
def g119:Cfg:={ P:=Tryz.prog,take:=[],keep:=[],gho:=[],ctx:=[(58,C58),(62,C62),(147,C147)] }
@[simp] theorem g119_s:type_of% (cfg_s (g:=g119) rfl):=cfg_s rfl
theorem w119 {s k_ i} {y} (hp:zdd s k_ i=some y):∃ m,callo g119 0 119 [av .shr s,av .shr k_,av .shr i] mem0=some (Res.res y,m):=by
 refine st0 [.tmp 6] Tryz.func119 ?_
 unfold zdd at hp
 obtain ⟨y_1,h_2,hp⟩:=zab hp
 have c_3:=C58_eq h_2
 simp at c_3
 obtain ⟨y_4,h_5,hp⟩:=zab hp
 have c_6:=zgz h_5
 simp at c_6
 simp [Tryz.f119,c_3,c_6]
 rcases zad hp with ⟨h_7,hp⟩|⟨h_7,hp⟩
 ·try simp at h_7
  obtain ⟨y_8,h_9,hp⟩:=zab hp
  have c_10:=zgz h_9
  simp at c_10
  try simp [h_7,c_10]
  rcases zad hp with ⟨h_11,hp⟩|⟨h_11,hp⟩
  ·try simp at h_11
   obtain ⟨e_12,h_13,hp⟩:=zab hp
   have b_14:=at_lo h_13
   have b_15:=at_hi h_13
   try simp at b_14 b_15
   have c_16:=seg_at' h_13 0 1 (by decide) (ds:=[.sl e_12.vars.length (encL e_12.vars)]) rfl
   try simp at c_16
   obtain ⟨y_17,h_18,hp⟩:=zab hp
   have c_19:=C147_eq h_18
   simp at c_19
   cases hp
   simp [Goal,FnEnd,h_7,h_11,b_14,b_15,c_16,c_19]
  ·try simp at h_11
   obtain ⟨y_20,h_21,hp⟩:=zab hp
   have c_22:=zgz h_21
   simp at c_22
   try simp [h_7,h_11,c_22]
   rcases zad hp with ⟨h_23,hp⟩|⟨h_23,hp⟩
   ·try simp at h_23
    obtain ⟨e_24,h_25,hp⟩:=zab hp
    have b_26:=at_lo h_25
    have b_27:=at_hi h_25
    try simp at b_26 b_27
    have c_28:=seg_at' h_25 1 1 (by decide) (ds:=[.sl e_24.reach.length (encL e_24.reach)]) rfl
    try simp at c_28
    obtain ⟨y_29,h_30,hp⟩:=zab hp
    have c_31:=C147_eq h_30
    simp at c_31
    cases hp
    simp [Goal,FnEnd,h_7,h_11,h_23,b_26,b_27,c_28,c_31]
   ·try simp at h_23
    try simp [h_7,h_11,h_23]
    rcases zad hp with ⟨h_32,hp⟩|⟨h_32,hp⟩
    ·try simp at h_32
     obtain ⟨e_33,h_34,hp⟩:=zab hp
     have b_35:=at_lo h_34
     have b_36:=at_hi h_34
     try simp at b_35 b_36
     have c_37:=seg_at' h_34 2 1 (by decide) (ds:=[.sc (.int .i64 e_33.shared)]) rfl
     try simp at c_37
     cases hp
     simp [Goal,FnEnd,h_7,h_11,h_23,h_32,b_35,b_36,c_37]
    ·try simp at h_32
     cases hp
     simp [Goal,FnEnd,h_7,h_11,h_23,h_32]
 ·try simp at h_7
  cases hp
  simp [Goal,FnEnd,h_7]
theorem pc119:PC Tryz.prog 119 C119:=pc_of (g:=g119) (zah _ g119_s.2.1 ⟨pc58,pc62,pc147,trivial⟩) (ent Tryz.func119) fun x y h=>w119 h

def C118:List AV→Option AV:=specP (X:=Int × Unit) fun x=>zbz x.1
theorem C118_eq {a_} {y} (h:zbz a_=some y):C118 [av .shr a_]=some (Res.res y):=zaf (x:=(a_,())) h
def g118:Cfg:={ P:=Tryz.prog,take:=[],keep:=[],gho:=[],ctx:=[(81,C81)] }
@[simp] theorem g118_s:type_of% (cfg_s (g:=g118) rfl):=cfg_s rfl
theorem w118 {a_} {y} (hp:zbz a_=some y):∃ m,callo g118 0 118 [av .shr a_] mem0=some (Res.res y,m):=by
 refine st0 [.tmp 2] Tryz.func118 ?_
 unfold zbz at hp
 obtain ⟨y_1,h_2,hp⟩:=zab hp
 have c_3:=C81_eq h_2
 simp at c_3
 simp [Tryz.f118,c_3]
 rcases zad hp with ⟨h_4,hp⟩|⟨h_4,hp⟩
 ·try simp at h_4
  obtain ⟨z_5,h_6,hp⟩:=zab hp
  have c_7:=sl_str Tryz.underlying9 h_6
  cases hp
  simp [Goal,FnEnd,h_4,c_7]
 ·try simp at h_4
  cases hp
  simp [Goal,FnEnd,h_4]
theorem pc118:PC Tryz.prog 118 C118:=pc_of (g:=g118) (zah _ g118_s.2.1 ⟨pc81,trivial⟩) (ent Tryz.func118) fun x y h=>w118 h

def C82:List AV→Option AV:=specP (X:=TStructure × Int × Unit) fun x=>zen x.1 x.2.1
theorem C82_eq {s i} {y} (h:zen s i=some y):C82 [av .shr s,av .shr i]=some (Res.res y):=zaf (x:=(s,i,())) h
def g82:Cfg:={ P:=Tryz.prog,take:=[],keep:=[((82,6),{ hd:=[1,2,5,6,7],bx:=[],ex:=[5],rt:=[4] })],gho:=[],ctx:=[(62,C62),(117,C117),(118,C118),(119,C119)] }
@[simp] theorem g82_s:type_of% (cfg_s (g:=g82) rfl):=cfg_s rfl
theorem w82 {s i} {y} (hp:zen s i=some y):∃ m,callo g82 0 82 [av .shr s,av .shr i] mem0=some (Res.res y,m):=by
 refine st0 [.tmp 4] Tryz.func82 ?_
 unfold zen at hp
 obtain ⟨y_1,h_2,hp⟩:=zab hp
 have c_3:=zgz h_2
 simp at c_3
 simp [Tryz.f82,c_3]
 rcases zad hp with ⟨h_4,hp⟩|⟨h_4,hp⟩
 ·try simp at h_4
  obtain ⟨y_5,h_6,hp⟩:=zab hp
  have c_7:=C117_eq h_6
  simp at c_7
  try simp [h_4,c_7]
  obtain ⟨r_25,h_26,hp⟩:=zab hp
  obtain ⟨I_10,I_10_⟩:=exV fun (s_8:ByteArray × Int) (σ:St)=>(σ.env 1=uI i∧σ.env 2=uP (1,2)∧σ.env 5=.one (.s (.string s_8.1))∧σ.env 6=uI y_5∧σ.env 7=uI s_8.2∧σ.mem (1,2)=some [cL .shr s.nodes,cL .shr s.next])∧NoBox [(1,2)] σ.mem
  obtain ⟨X_11,X_11_⟩:=exV fun (r_25:ByteArray) (out:Out)=>∃ σ:St,out=.exit 0 σ∧(σ.env 5=.one (.s (.string r_25))∧σ.mem (1,2)=some [cL .shr s.nodes,cL .shr s.next])∧NoBox [(1,2)] σ.mem
  refine loopP ({ hd:=[1,2,5,6,7],bx:=[],ex:=[5],rt:=[4] }) I_10 X_11 h_26 (by exact rfl) ?_ ?_ ?_
  ·rw [I_10_]
   exact ⟨by simp [zac,zaa,h_4],NoBox.restrict (by intro k hk hb;simp at hk hb;simp [hk,hb,h_4])⟩
  ·intro s_8 σ_12 a_9 hI hp
   rw [I_10_] at hI
   obtain ⟨q_14,hn_13⟩:=hI
   try simp [h_4,q_14]
   rcases zad hp with ⟨h_15,hp⟩|⟨h_15,hp⟩
   ·try simp at h_15
    obtain ⟨y_16,h_17,hp⟩:=zab hp
    have c_18:=C119_eq h_17
    simp at c_18
    obtain ⟨y_19,h_20,hp⟩:=zab hp
    have c_21:=C118_eq h_20
    simp at c_21
    obtain ⟨z_22,h_23,hp⟩:=zab hp
    have c_24:=zds (P:=Tryz.prog) (t:=9) h_23
    cases hp
    try simp [h_4,q_14,h_15,c_18,c_21,c_24]
    refine zag ?_
    rw [I_10_]
    exact ⟨by simp [zac,zaa,h_4,q_14,h_15,c_18,c_21,c_24],NoBox.restrict (by intro k hk hb;simp at hk hb;simp [hk,hb,h_4,q_14,h_15,c_18,c_21,c_24,hn_13 k (by simp [hk,hb])])⟩
   ·try simp at h_15
    cases hp
    try simp [h_4,q_14,h_15]
    refine zak ?_
    rw [X_11_]
    exact ⟨_,rfl,by simp [zac,zaa,h_4,q_14,h_15],NoBox.restrict (by intro k hk hb;simp at hk hb;simp [hk,hb,h_4,q_14,h_15,hn_13 k (by simp [hk,hb])])⟩
  ·intro out hX
   rw [X_11_] at hX
   obtain ⟨σ_27,rfl,q_29,hn_28⟩:=hX
   cases hp
   simp [Goal,FnEnd,h_4,q_29]
 ·try simp at h_4
  cases hp
  simp [Goal,FnEnd,h_4]
theorem pc82:PC Tryz.prog 82 C82:=pc_of (g:=g82) (zah _ g82_s.2.1 ⟨pc62,pc117,pc118,pc119,trivial⟩) (ent Tryz.func82) fun x y h=>w82 h

def C59:List AV→Option AV:=specS (X:=TStructure × Unit) fun x=>zfs x.1
theorem C59_eq {s} {y} (h:zfs s=some y):C59 [av .shr s]=some (av .shr y):=specS_eq (x:=(s,())) h
theorem pc59:PC Tryz.prog 59 C59:=pc_l17 pc82 fun s i x h=>C82_eq h

def C60:List AV→Option AV:=specP (X:=TStructure × (List Int) × Unit) fun x=>zej x.1 x.2.1
theorem C60_eq {s group} {y} (h:zej s group=some y):C60 [av .shr s,av .shr group]=some (Res.res y):=zaf (x:=(s,group,())) h
def g60:Cfg:={ P:=Tryz.prog,take:=[(60,37)],keep:=[((60,3),{ hd:=[1,2,4,5,6],bx:=[],ex:=[4,5],rt:=[4] })],gho:=[],ctx:=[(64,C64)] }
@[simp] theorem g60_s:type_of% (cfg_s (g:=g60) rfl):=cfg_s rfl
theorem w60 {s group} {y} (hp:zej s group=some y):∃ m,callo g60 0 60 [av .shr s,av .shr group] mem0=some (Res.res y,m):=by
 refine st0 [.cell 4 67] Tryz.func60 ?_
 unfold zej at hp
 obtain ⟨e_1,h_2,hp⟩:=zab hp
 have b_4:=at_hi h_2
 try simp at b_4
 have c_5:=seg_at' h_2 0 1 (by decide) (ds:=[.sc (.int .i64 e_1)]) rfl
 try simp at c_5
 obtain ⟨e_6,h_7,hp⟩:=zab hp
 have b_8:=at_lo h_7
 have b_9:=at_hi h_7
 try simp at b_8 b_9
 have c_10:=seg_at' h_7 0 4 (by decide) (ds:=[.sl e_6.vars.length (encL e_6.vars),.sl e_6.reach.length (encL e_6.reach),.sc (.int .i64 e_6.shared),.sc (.int .i64 e_6.many)]) rfl
 try simp at c_10
 obtain ⟨y_11,h_12,hp⟩:=zab hp
 have c_13:=C64_eq h_12
 simp at c_13
 simp [Tryz.f60,b_4,c_5,b_8,b_9,c_10,c_13]
 obtain ⟨r_34,h_35,hp⟩:=zab hp
 obtain ⟨I_16,I_16_⟩:=exV fun (s_14:Int × Int) (σ:St)=>(σ.env 1=uL .shr group∧σ.env 2=uP (1,2)∧σ.env 4=uP (1,4)∧σ.env 5=uP (1,5)∧σ.env 6=uI s_14.1∧σ.mem (1,2)=some [cL .shr s.nodes,cL .shr s.next]∧σ.mem (1,4)=some [.l .own 0 [],.l .own 0 [],cI 0,cI 0]∧σ.mem (1,5)=some [cL .own y_11.vars,cL .own y_11.reach,cI y_11.shared,cI s_14.2])∧NoBox [(1,2),(1,4),(1,5)] σ.mem
 obtain ⟨X_17,X_17_⟩:=exV fun (r_34:Int) (out:Out)=>∃ σ:St,out=.exit 0 σ∧(σ.env 4=uP (1,4)∧σ.env 5=uP (1,5)∧σ.mem (1,2)=some [cL .shr s.nodes,cL .shr s.next]∧σ.mem (1,4)=some [.l .own 0 [],.l .own 0 [],cI 0,cI 0]∧σ.mem (1,5)=some [cL .own y_11.vars,cL .own y_11.reach,cI y_11.shared,cI r_34])∧NoBox [(1,2),(1,4),(1,5)] σ.mem
 refine loopP ({ hd:=[1,2,4,5,6],bx:=[],ex:=[4,5],rt:=[4] }) I_16 X_17 h_35 (by exact rfl) ?_ ?_ ?_
 ·rw [I_16_]
  exact ⟨by simp [zac,zaa],NoBox.restrict (by intro k hk hb;simp at hk hb;simp [hk,hb])⟩
 ·intro s_14 σ_18 a_15 hI hp
  rw [I_16_] at hI
  obtain ⟨q_20,hn_19⟩:=hI
  try simp [q_20]
  rcases zad hp with ⟨h_21,hp⟩|⟨h_21,hp⟩
  ·try simp at h_21
   try simp [q_20,h_21]
   rcases zad hp with ⟨h_22,hp⟩|⟨h_22,hp⟩
   ·try simp at h_22
    cases hp
    try simp [q_20,h_21,h_22]
    refine zag ?_
    rw [I_16_]
    exact ⟨by simp [zac,zaa,q_20,h_21,h_22],NoBox.restrict (by intro k hk hb;simp at hk hb;simp [hk,hb,q_20,h_21,h_22,hn_19 k (by simp [hk,hb])])⟩
   ·try simp at h_22
    obtain ⟨e_23,h_24,hp⟩:=zab hp
    have b_25:=at_lo h_24
    have b_26:=at_hi h_24
    try simp at b_25 b_26
    have c_27:=seg_at' h_24 0 1 (by decide) (ds:=[.sc (.int .i64 e_23)]) rfl
    try simp at c_27
    obtain ⟨e_28,h_29,hp⟩:=zab hp
    have b_30:=at_lo h_29
    have b_31:=at_hi h_29
    try simp at b_30 b_31
    have c_32:=seg_at' h_29 3 1 (by decide) (ds:=[.sc (.int .i64 e_28.many)]) rfl
    try simp at c_32
    try simp [q_20,h_21,h_22,b_25,b_26,c_27,b_30,b_31,c_32]
    rcases zad hp with ⟨h_33,hp⟩|⟨h_33,hp⟩
    ·try simp at h_33
     cases hp
     try simp [q_20,h_21,h_22,h_33]
     refine zag ?_
     rw [I_16_]
     exact ⟨by simp [zac,zaa,q_20,h_21,h_22,h_33],NoBox.restrict (by intro k hk hb;simp at hk hb;simp [hk,hb,q_20,h_21,h_22,h_33,hn_19 k (by simp [hk,hb])])⟩
    ·try simp at h_33
     cases hp
     try simp [q_20,h_21,h_22,h_33]
     refine zag ?_
     rw [I_16_]
     exact ⟨by simp [zac,zaa,q_20,h_21,h_22,h_33],NoBox.restrict (by intro k hk hb;simp at hk hb;simp [hk,hb,q_20,h_21,h_22,h_33,hn_19 k (by simp [hk,hb])])⟩
  ·try simp at h_21
   cases hp
   try simp [q_20,h_21]
   refine zak ?_
   rw [X_17_]
   exact ⟨_,rfl,by simp [zac,zaa,q_20,h_21],NoBox.restrict (by intro k hk hb;simp at hk hb;simp [hk,hb,q_20,h_21,hn_19 k (by simp [hk,hb])])⟩
 ·intro out hX
  rw [X_17_] at hX
  obtain ⟨σ_36,rfl,q_38,hn_37⟩:=hX
  cases hp
  simp [Goal,FnEnd,retR,rsrc,RSrc.val,nodupR,nodup,tupPart,q_38]
theorem pc60:PC Tryz.prog 60 C60:=pc_of (g:=g60) (zah _ g60_s.2.1 ⟨pc64,trivial⟩) (ent Tryz.func60) fun x y h=>w60 h

def C83:List AV→Option AV:=specP (X:=TStructure × Int × Int × Unit) fun x=>zco x.1 x.2.1 x.2.2.1
theorem C83_eq {s i j} {y} (h:zco s i j=some y):C83 [av .shr s,av .shr i,av .shr j]=some (Res.res y):=zaf (x:=(s,i,j,())) h
def g83:Cfg:={ P:=Tryz.prog,take:=[],keep:=[],gho:=[],ctx:=[(62,C62)] }
@[simp] theorem g83_s:type_of% (cfg_s (g:=g83) rfl):=cfg_s rfl
theorem w83 {s i j} {y} (hp:zco s i j=some y):∃ m,callo g83 0 83 [av .shr s,av .shr i,av .shr j] mem0=some (Res.res y,m):=by
 refine st0 [.tmp 6] Tryz.func83 ?_
 unfold zco at hp
 obtain ⟨y_1,h_2,hp⟩:=zab hp
 have c_3:=zgz h_2
 simp at c_3
 simp [Tryz.f83,c_3]
 rcases zad hp with ⟨h_4,hp⟩|⟨h_4,hp⟩
 ·try simp at h_4
  obtain ⟨y_5,h_6,hp⟩:=zab hp
  have c_7:=zgz h_6
  simp at c_7
  try simp [h_4,c_7]
  rcases zad hp with ⟨h_8,hp⟩|⟨h_8,hp⟩
  ·try simp at h_8
   try simp [h_4,h_8]
   rcases zad hp with ⟨h_9,hp⟩|⟨h_9,hp⟩
   ·try simp at h_9
    cases hp
    simp [Goal,FnEnd,h_4,h_8,h_9]
   ·try simp at h_9
    obtain ⟨e_10,h_11,hp⟩:=zab hp
    have b_12:=at_lo h_11
    have b_13:=at_hi h_11
    try simp at b_12 b_13
    have c_14:=seg_at' h_11 0 1 (by decide) (ds:=[.sc (.int .i64 e_10)]) rfl
    try simp at c_14
    cases hp
    simp [Goal,FnEnd,h_4,h_8,h_9,b_12,b_13,c_14]
  ·try simp at h_8
   cases hp
   simp [Goal,FnEnd,h_4,h_8]
 ·try simp at h_4
  cases hp
  simp [Goal,FnEnd,h_4]
theorem pc83:PC Tryz.prog 83 C83:=pc_of (g:=g83) (zah _ g83_s.2.1 ⟨pc62,trivial⟩) (ent Tryz.func83) fun x y h=>w83 h

def C84:List AV→Option AV:=specP (X:=Int × Int × Unit) fun x=>zfc x.1 x.2.1
theorem C84_eq {a_ b_} {y} (h:zfc a_ b_=some y):C84 [av .shr a_,av .shr b_]=some (Res.res y):=zaf (x:=(a_,b_,())) h
def g84:Cfg:={ P:=Tryz.prog,take:=[],keep:=[],gho:=[],ctx:=[(81,C81)] }
@[simp] theorem g84_s:type_of% (cfg_s (g:=g84) rfl):=cfg_s rfl
theorem w84 {a_ b_} {y} (hp:zfc a_ b_=some y):∃ m,callo g84 0 84 [av .shr a_,av .shr b_] mem0=some (Res.res y,m):=by
 refine st0 [.tmp 4] Tryz.func84 ?_
 unfold zfc at hp
 simp [Tryz.f84]
 rcases zad hp with ⟨h_1,hp⟩|⟨h_1,hp⟩
 ·try simp at h_1
  cases hp
  simp [Goal,FnEnd,h_1]
 ·try simp at h_1
  obtain ⟨y_2,h_3,hp⟩:=zab hp
  have c_4:=C81_eq h_3
  simp at c_4
  try simp [h_1,c_4]
  rcases zad hp with ⟨h_5,hp⟩|⟨h_5,hp⟩
  ·try simp at h_5
   cases hp
   simp [Goal,FnEnd,h_1,h_5]
  ·try simp at h_5
   cases hp
   simp [Goal,FnEnd,h_1,h_5]
theorem pc84:PC Tryz.prog 84 C84:=pc_of (g:=g84) (zah _ g84_s.2.1 ⟨pc81,trivial⟩) (ent Tryz.func84) fun x y h=>w84 h

def C61:List AV→Option AV:=specP (X:=TStructure × (List Int) × (List Int) × Unit) fun x=>zek x.1 x.2.1 x.2.2.1
theorem C61_eq {s a_ b_} {y} (h:zek s a_ b_=some y):C61 [av .shr s,av .shr a_,av .shr b_]=some (Res.res y):=zaf (x:=(s,a_,b_,())) h
def g61:Cfg:={ P:=Tryz.prog,take:=[],keep:=[((61,3),{ hd:=[1,2,3,7,8],bx:=[],ex:=[7],rt:=[6] }),((61,6),{ hd:=[1,2,3,7,8,9],bx:=[],ex:=[1,2,3,7,8],rt:=[6] })],gho:=[],ctx:=[(83,C83),(84,C84)] }
@[simp] theorem g61_s:type_of% (cfg_s (g:=g61) rfl):=cfg_s rfl
theorem w61 {s a_ b_} {y} (hp:zek s a_ b_=some y):∃ m,callo g61 0 61 [av .shr s,av .shr a_,av .shr b_] mem0=some (Res.res y,m):=by
 refine st0 [.tmp 6] Tryz.func61 ?_
 unfold zek at hp
 obtain ⟨e_1,h_2,hp⟩:=zab hp
 have b_4:=at_hi h_2
 try simp at b_4
 have c_5:=seg_at' h_2 0 1 (by decide) (ds:=[.sc (.int .i64 e_1)]) rfl
 try simp at c_5
 obtain ⟨e_6,h_7,hp⟩:=zab hp
 have b_9:=at_hi h_7
 try simp at b_9
 have c_10:=seg_at' h_7 0 1 (by decide) (ds:=[.sc (.int .i64 e_6)]) rfl
 try simp at c_10
 obtain ⟨y_11,h_12,hp⟩:=zab hp
 have c_13:=C83_eq h_12
 simp at c_13
 simp [Tryz.f61,b_4,c_5,b_9,c_10,c_13]
 obtain ⟨r_51,h_52,hp⟩:=zab hp
 obtain ⟨I_16,I_16_⟩:=exV fun (s_14:Int × Int) (σ:St)=>(σ.env 1=uL .shr a_∧σ.env 2=uL .shr b_∧σ.env 3=uP (1,3)∧σ.env 7=uI s_14.1∧σ.env 8=uI s_14.2∧σ.mem (1,3)=some [cL .shr s.nodes,cL .shr s.next])∧NoBox [(1,3)] σ.mem
 obtain ⟨X_17,X_17_⟩:=exV fun (r_51:Int) (out:Out)=>∃ σ:St,out=.exit 0 σ∧(σ.env 7=uI r_51∧σ.mem (1,3)=some [cL .shr s.nodes,cL .shr s.next])∧NoBox [(1,3)] σ.mem
 refine loopP ({ hd:=[1,2,3,7,8],bx:=[],ex:=[7],rt:=[6] }) I_16 X_17 h_52 (by exact rfl) ?_ ?_ ?_
 ·rw [I_16_]
  exact ⟨by simp [zac,zaa],NoBox.restrict (by intro k hk hb;simp at hk hb;simp [hk,hb])⟩
 ·intro s_14 σ_18 a_15 hI hp
  rw [I_16_] at hI
  obtain ⟨q_20,hn_19⟩:=hI
  try simp [q_20]
  rcases zad hp with ⟨h_21,hp⟩|⟨h_21,hp⟩
  ·try simp at h_21
   try simp [q_20,h_21]
   obtain ⟨r_46,h_47,hp⟩:=zab hp
   obtain ⟨I_24,I_24_⟩:=exV fun (s_22:Int × Int) (σ:St)=>(σ.env 1=uL .shr a_∧σ.env 2=uL .shr b_∧σ.env 3=uP (1,3)∧σ.env 7=uI s_22.1∧σ.env 8=uI s_14.2∧σ.env 9=uI s_22.2∧σ.mem (1,3)=some [cL .shr s.nodes,cL .shr s.next])∧NoBox [(1,3)] σ.mem
   obtain ⟨X_25,X_25_⟩:=exV fun (r_46:Int) (out:Out)=>∃ σ:St,out=.exit 2 σ∧(σ.env 1=uL .shr a_∧σ.env 2=uL .shr b_∧σ.env 3=uP (1,3)∧σ.env 7=uI r_46∧σ.env 8=uI s_14.2∧σ.mem (1,3)=some [cL .shr s.nodes,cL .shr s.next])∧NoBox [(1,3)] σ.mem
   refine loopP ({ hd:=[1,2,3,7,8,9],bx:=[],ex:=[1,2,3,7,8],rt:=[6] }) I_24 X_25 h_47 (by exact rfl) ?_ ?_ ?_
   ·rw [I_24_]
    exact ⟨by simp [zac,zaa,q_20,h_21],NoBox.restrict (by intro k hk hb;simp at hk hb;simp [hk,hb,q_20,h_21,hn_19 k (by simp [hk,hb])])⟩
   ·intro s_22 σ_26 a_23 hI hp
    rw [I_24_] at hI
    obtain ⟨q_28,hn_27⟩:=hI
    try simp [h_21,q_28]
    rcases zad hp with ⟨h_29,hp⟩|⟨h_29,hp⟩
    ·try simp at h_29
     obtain ⟨e_30,h_31,hp⟩:=zab hp
     have b_32:=at_lo h_31
     have b_33:=at_hi h_31
     try simp at b_32 b_33
     have c_34:=seg_at' h_31 0 1 (by decide) (ds:=[.sc (.int .i64 e_30)]) rfl
     try simp at c_34
     obtain ⟨e_35,h_36,hp⟩:=zab hp
     have b_37:=at_lo h_36
     have b_38:=at_hi h_36
     try simp at b_37 b_38
     have c_39:=seg_at' h_36 0 1 (by decide) (ds:=[.sc (.int .i64 e_35)]) rfl
     try simp at c_39
     obtain ⟨y_40,h_41,hp⟩:=zab hp
     have c_42:=C83_eq h_41
     simp at c_42
     obtain ⟨y_43,h_44,hp⟩:=zab hp
     have c_45:=C84_eq h_44
     simp at c_45
     cases hp
     try simp [h_21,q_28,h_29,b_32,b_33,c_34,b_37,b_38,c_39,c_42,c_45]
     refine zag ?_
     rw [I_24_]
     exact ⟨by simp [zac,zaa,h_21,q_28,h_29,b_32,b_33,c_34,b_37,b_38,c_39,c_42,c_45],NoBox.restrict (by intro k hk hb;simp at hk hb;simp [hk,hb,h_21,q_28,h_29,b_32,b_33,c_34,b_37,b_38,c_39,c_42,c_45,hn_27 k (by simp [hk,hb])])⟩
    ·try simp at h_29
     cases hp
     try simp [h_21,q_28,h_29]
     refine zak ?_
     rw [X_25_]
     exact ⟨_,rfl,by simp [zac,zaa,h_21,q_28,h_29],NoBox.restrict (by intro k hk hb;simp at hk hb;simp [hk,hb,h_21,q_28,h_29,hn_27 k (by simp [hk,hb])])⟩
   ·intro out hX
    rw [X_25_] at hX
    obtain ⟨σ_48,rfl,q_50,hn_49⟩:=hX
    cases hp
    try simp [h_21,q_50]
    refine zag ?_
    rw [I_16_]
    exact ⟨by simp [zac,zaa,h_21,q_50],NoBox.restrict (by intro k hk hb;simp at hk hb;simp [hk,hb,h_21,q_50,hn_49 k (by simp [hk,hb])])⟩
  ·try simp at h_21
   cases hp
   try simp [q_20,h_21]
   refine zak ?_
   rw [X_17_]
   exact ⟨_,rfl,by simp [zac,zaa,q_20,h_21],NoBox.restrict (by intro k hk hb;simp at hk hb;simp [hk,hb,q_20,h_21,hn_19 k (by simp [hk,hb])])⟩
 ·intro out hX
  rw [X_17_] at hX
  obtain ⟨σ_53,rfl,q_55,hn_54⟩:=hX
  cases hp
  simp [Goal,FnEnd,q_55]
theorem pc61:PC Tryz.prog 61 C61:=pc_of (g:=g61) (zah _ g61_s.2.1 ⟨pc83,pc84,trivial⟩) (ent Tryz.func61) fun x y h=>w61 h
end Go.Proofs


set_option maxHeartbeats 4000000
set_option maxRecDepth 100000
namespace Go.Proofs
open Go.Ev
def C30:List AV→Option AV:=specP (X:=TStructure × Unit) fun x=>zgv x.1
theorem C30_eq {s} {y} (h:zgv s=some y):C30 [av .shr s]=some (Res.res y):=zaf (x:=(s,())) h
def g30:Cfg:={ P:=Tryz.prog,take:=[(30,29),(30,46),(30,60)],keep:=[((30,8),{ hd:=[1,2,3,4,5],bx:=[],ex:=[2,4],rt:=[2] }),((30,12),{ hd:=[1,2,3,4,5,6],bx:=[],ex:=[1,2,3,4,5],rt:=[2] })],gho:=[],ctx:=[(32,C32),(57,C57),(58,C58),(59,C59),(60,C60),(61,C61)] }
@[simp] theorem g30_s:type_of% (cfg_s (g:=g30) rfl):=cfg_s rfl
theorem w30 {s} {y} (hp:zgv s=some y):∃ m,callo g30 0 30 [av .shr s] mem0=some (Res.res y,m):=by
 refine st0 [.cell 2 34] Tryz.func30 ?_
 unfold zgv at hp
 simp [Tryz.f30]
 rcases zad hp with ⟨h_1,hp⟩|⟨h_1,hp⟩
 ·try simp at h_1
  cases hp
  simp [Goal,FnEnd,retR,rsrc,RSrc.val,nodupR,nodup,tupPart,h_1]
 ·try simp at h_1
  obtain ⟨y_2,h_3,hp⟩:=zab hp
  have c_4:=C58_eq h_3
  simp at c_4
  obtain ⟨y_5,h_6,hp⟩:=zab hp
  have c_7:=C57_eq h_6
  simp at c_7
  try simp [h_1,c_4,c_7]
  rcases zad hp with ⟨h_8,hp⟩|⟨h_8,hp⟩
  ·try simp at h_8
   obtain ⟨y_9,h_10,hp⟩:=zab hp
   have c_11:=C59_eq h_10
   simp at c_11
   try simp [h_1,h_8,c_11]
   obtain ⟨r_58,h_59,hp⟩:=zab hp
   obtain ⟨I_14,I_14_⟩:=exV fun (s_12:Int × (List TNode) × (List Int)) (σ:St)=>(σ.env 1=uP (1,1)∧σ.env 2=uP (1,2)∧σ.env 3=uL .shr y_9∧σ.env 4=uP (1,4)∧σ.env 5=uI s_12.1∧σ.mem (1,1)=some [cL .shr s.nodes,cL .shr s.next]∧σ.mem (1,2)=some [.l .own 0 [],.l .own 0 []]∧σ.mem (1,4)=some [cL .own s_12.2.1,cL .own s_12.2.2])∧NoBox [(1,1),(1,2),(1,4)] σ.mem
   obtain ⟨X_15,X_15_⟩:=exV fun (r_58:(List TNode) × (List Int)) (out:Out)=>∃ σ:St,out=.exit 0 σ∧(σ.env 2=uP (1,2)∧σ.env 4=uP (1,4)∧σ.mem (1,1)=some [cL .shr s.nodes,cL .shr s.next]∧σ.mem (1,2)=some [.l .own 0 [],.l .own 0 []]∧σ.mem (1,4)=some [cL .own r_58.1,cL .own r_58.2])∧NoBox [(1,1),(1,2),(1,4)] σ.mem
   refine loopP ({ hd:=[1,2,3,4,5],bx:=[],ex:=[2,4],rt:=[2] }) I_14 X_15 h_59 (by exact rfl) ?_ ?_ ?_
   ·rw [I_14_]
    exact ⟨by simp [zac,zaa,h_1,h_8],NoBox.restrict (by intro k hk hb;simp at hk hb;simp [hk,hb,h_1,h_8])⟩
   ·intro s_12 σ_16 a_13 hI hp
    rw [I_14_] at hI
    obtain ⟨q_18,hn_17⟩:=hI
    try simp [h_1,h_8,q_18]
    rcases zad hp with ⟨h_19,hp⟩|⟨h_19,hp⟩
    ·try simp at h_19
     obtain ⟨e_20,h_21,hp⟩:=zab hp
     have b_22:=at_lo h_21
     have b_23:=at_hi h_21
     try simp at b_22 b_23
     have c_24:=seg_at' h_21 0 1 (by decide) (ds:=[.sl e_20.length (encL e_20)]) rfl
     try simp at c_24
     obtain ⟨y_25,h_26,hp⟩:=zab hp
     have c_27:=C60_eq h_26
     simp at c_27
     obtain ⟨_,h_28,hp⟩:=zab hp
     have b_29:=zav h_28
     try simp at b_29
     try simp [h_1,h_8,q_18,h_19,b_22,b_23,c_24,c_27,b_29]
     obtain ⟨r_53,h_54,hp⟩:=zab hp
     obtain ⟨I_32,I_32_⟩:=exV fun (s_30:Int × (List Int)) (σ:St)=>(σ.env 1=uP (1,1)∧σ.env 2=uP (1,2)∧σ.env 3=uL .shr y_9∧σ.env 4=uP (1,4)∧σ.env 5=uI s_12.1∧σ.env 6=uI s_30.1∧σ.mem (1,1)=some [cL .shr s.nodes,cL .shr s.next]∧σ.mem (1,2)=some [.l .own 0 [],.l .own 0 []]∧σ.mem (1,4)=some [cL .own (s_12.2.1 ++ [y_25]),cL .own s_30.2])∧NoBox [(1,1),(1,2),(1,4)] σ.mem
     obtain ⟨X_33,X_33_⟩:=exV fun (r_53:(List Int)) (out:Out)=>∃ σ:St,out=.exit 2 σ∧(σ.env 1=uP (1,1)∧σ.env 2=uP (1,2)∧σ.env 3=uL .shr y_9∧σ.env 4=uP (1,4)∧σ.env 5=uI s_12.1∧σ.mem (1,1)=some [cL .shr s.nodes,cL .shr s.next]∧σ.mem (1,2)=some [.l .own 0 [],.l .own 0 []]∧σ.mem (1,4)=some [cL .own (s_12.2.1 ++ [y_25]),cL .own r_53])∧NoBox [(1,1),(1,2),(1,4)] σ.mem
     refine loopP ({ hd:=[1,2,3,4,5,6],bx:=[],ex:=[1,2,3,4,5],rt:=[2] }) I_32 X_33 h_54 (by exact rfl) ?_ ?_ ?_
     ·rw [I_32_]
      exact ⟨by simp [zac,zaa,h_1,h_8,q_18,h_19],NoBox.restrict (by intro k hk hb;simp at hk hb;simp [hk,hb,h_1,h_8,q_18,h_19,hn_17 k (by simp [hk,hb])])⟩
     ·intro s_30 σ_34 a_31 hI hp
      rw [I_32_] at hI
      obtain ⟨q_36,hn_35⟩:=hI
      try simp [h_1,h_8,h_19,q_36]
      rcases zad hp with ⟨h_37,hp⟩|⟨h_37,hp⟩
      ·try simp at h_37
       obtain ⟨e_38,h_39,hp⟩:=zab hp
       cases Option.some.inj (h_21.symm.trans h_39)
       have b_40:=at_lo h_21
       have b_41:=at_hi h_21
       try simp at b_40 b_41
       have c_42:=seg_at' h_21 0 1 (by decide) (ds:=[.sl e_20.length (encL e_20)]) rfl
       try simp at c_42
       obtain ⟨e_43,h_44,hp⟩:=zab hp
       have b_45:=at_lo h_44
       have b_46:=at_hi h_44
       try simp at b_45 b_46
       have c_47:=seg_at' h_44 0 1 (by decide) (ds:=[.sl e_43.length (encL e_43)]) rfl
       try simp at c_47
       obtain ⟨y_48,h_49,hp⟩:=zab hp
       have c_50:=C61_eq h_49
       simp at c_50
       obtain ⟨_,h_51,hp⟩:=zab hp
       have b_52:=zav h_51
       try simp at b_52
       cases hp
       try simp [h_1,h_8,h_19,q_36,h_37,b_40,b_41,c_42,b_45,b_46,c_47,c_50,b_52]
       refine zag ?_
       rw [I_32_]
       exact ⟨by simp [zac,zaa,h_1,h_8,h_19,q_36,h_37,b_40,b_41,c_42,b_45,b_46,c_47,c_50,b_52],NoBox.restrict (by intro k hk hb;simp at hk hb;simp [hk,hb,h_1,h_8,h_19,q_36,h_37,b_40,b_41,c_42,b_45,b_46,c_47,c_50,b_52,hn_35 k (by simp [hk,hb])])⟩
      ·try simp at h_37
       cases hp
       try simp [h_1,h_8,h_19,q_36,h_37]
       refine zak ?_
       rw [X_33_]
       exact ⟨_,rfl,by simp [zac,zaa,h_1,h_8,h_19,q_36,h_37],NoBox.restrict (by intro k hk hb;simp at hk hb;simp [hk,hb,h_1,h_8,h_19,q_36,h_37,hn_35 k (by simp [hk,hb])])⟩
     ·intro out hX
      rw [X_33_] at hX
      obtain ⟨σ_55,rfl,q_57,hn_56⟩:=hX
      cases hp
      try simp [h_1,h_8,h_19,q_57]
      refine zag ?_
      rw [I_14_]
      exact ⟨by simp [zac,zaa,h_1,h_8,h_19,q_57],NoBox.restrict (by intro k hk hb;simp at hk hb;simp [hk,hb,h_1,h_8,h_19,q_57,hn_56 k (by simp [hk,hb])])⟩
    ·try simp at h_19
     cases hp
     try simp [h_1,h_8,q_18,h_19]
     refine zak ?_
     rw [X_15_]
     exact ⟨_,rfl,by simp [zac,zaa,h_1,h_8,q_18,h_19],NoBox.restrict (by intro k hk hb;simp at hk hb;simp [hk,hb,h_1,h_8,q_18,h_19,hn_17 k (by simp [hk,hb])])⟩
   ·intro out hX
    rw [X_15_] at hX
    obtain ⟨σ_60,rfl,q_62,hn_61⟩:=hX
    cases hp
    simp [Goal,FnEnd,retR,rsrc,RSrc.val,nodupR,nodup,tupPart,h_1,h_8,q_62]
  ·try simp at h_8
   obtain ⟨y_63,h_64,hp⟩:=zab hp
   have c_65:=zqo h_64
   simp at c_65
   cases hp
   simp [Goal,FnEnd,retR,rsrc,RSrc.val,nodupR,nodup,tupPart,h_1,h_8,c_65]
theorem pc30:PC Tryz.prog 30 C30:=pc_of (g:=g30) (zah _ g30_s.2.1 ⟨pc32,pc57,pc58,pc59,pc60,pc61,trivial⟩) (ent Tryz.func30) fun x y h=>w30 h

def C120:List AV→Option AV:=specP (X:=ByteArray × Unit) fun x=>zee x.1
theorem C120_eq {s} {y} (h:zee s=some y):C120 [av .shr s]=some (Res.res y):=zaf (x:=(s,())) h
def g120:Cfg:={ P:=Tryz.prog,take:=[],keep:=[((120,2),{ hd:=[0,3],bx:=[],ex:=[0],rt:=[2] })],gho:=[],ctx:=[(62,C62)] }
@[simp] theorem g120_s:type_of% (cfg_s (g:=g120) rfl):=cfg_s rfl
theorem w120 {s} {y} (hp:zee s=some y):∃ m,callo g120 0 120 [av .shr s] mem0=some (Res.res y,m):=by
 refine st0 [.tmp 2] Tryz.func120 ?_
 unfold zee at hp
 simp [Tryz.f120]
 obtain ⟨r_15,h_16,hp⟩:=zab hp
 obtain ⟨I_3,I_3_⟩:=exV fun (s_1:Int) (σ:St)=>(σ.env 0=.one (.s (.string s))∧σ.env 3=uI s_1)∧σ.mem=mem0
 obtain ⟨X_4,X_4_⟩:=exV fun (r_15:(Unit) ⊕ (Unit)) (out:Out)=>Sum.elim (fun r_15=>∃ σ:St,out=.ret σ∧σ.env 2=uB false∧σ.mem=mem0) (fun r_15=>∃ σ:St,out=.exit 0 σ∧σ.env 0=.one (.s (.string s))∧σ.mem=mem0) r_15
 refine loopP ({ hd:=[0,3],bx:=[],ex:=[0],rt:=[2] }) I_3 X_4 h_16 (by exact rfl) ?_ ?_ ?_
 ·rw [I_3_]
  exact ⟨by simp [zac,zaa],by simp [zaa]⟩
 ·intro s_1 σ_5 a_2 hI hp
  rw [I_3_] at hI
  obtain ⟨q_7,q_6⟩:=hI
  try simp [q_7,q_6]
  rcases zad hp with ⟨h_8,hp⟩|⟨h_8,hp⟩
  ·try simp at h_8
   obtain ⟨e_9,h_10,hp⟩:=zab hp
   have c_11:=idx_str Tryz.underlying9 h_10
   try simp [q_7,q_6,h_8,c_11]
   rcases zad hp with ⟨h_12,hp⟩|⟨h_12,hp⟩
   ·try simp at h_12
    cases hp
    try simp [q_7,q_6,h_8,h_12]
    refine zal ?_
    rw [X_4_]
    exact ⟨_,rfl,by simp [zac,zaa,q_7,q_6,h_8,h_12],by simp [zaa,q_7,q_6,h_8,h_12]⟩
   ·try simp at h_12
    obtain ⟨_,h_13,hp⟩:=zab hp
    cases Option.some.inj (h_10.symm.trans h_13)
    try simp [q_7,q_6,h_8,h_12,c_11]
    rcases zad hp with ⟨h_14,hp⟩|⟨h_14,hp⟩
    ·try simp at h_14
     cases hp
     try simp [q_7,q_6,h_8,h_12,h_14]
     refine zal ?_
     rw [X_4_]
     exact ⟨_,rfl,by simp [zac,zaa,q_7,q_6,h_8,h_12,h_14],by simp [zaa,q_7,q_6,h_8,h_12,h_14]⟩
    ·try simp at h_14
     cases hp
     try simp [q_7,q_6,h_8,h_12,h_14]
     refine zag ?_
     rw [I_3_]
     exact ⟨by simp [zac,zaa,q_7,q_6,h_8,h_12,h_14],by simp [zaa,q_7,q_6,h_8,h_12,h_14]⟩
  ·try simp at h_8
   cases hp
   try simp [q_7,q_6,h_8]
   refine zak ?_
   rw [X_4_]
   exact ⟨_,rfl,by simp [zac,zaa,q_7,q_6,h_8],by simp [zaa,q_7,q_6,h_8]⟩
 ·intro out hX
  rw [X_4_] at hX
  rcases r_15 with r_15 | r_15
  ·simp only [Sum.elim_inl,Sum.elim_inr] at hX hp
   obtain ⟨σ_17,rfl,q_19,q_18⟩:=hX
   cases hp
   simp [Goal,FnEnd,q_19,q_18]
  ·simp only [Sum.elim_inl,Sum.elim_inr] at hX hp
   obtain ⟨σ_20,rfl,q_22,q_21⟩:=hX
   obtain ⟨y_23,h_24,hp⟩:=zab hp
   have c_25:=zgz h_24
   simp at c_25
   cases hp
   simp [Goal,FnEnd,q_22,q_21,c_25]
theorem pc120:PC Tryz.prog 120 C120:=pc_of (g:=g120) (zah _ g120_s.2.1 ⟨pc62,trivial⟩) (ent Tryz.func120) fun x y h=>w120 h

def C121:List AV→Option AV:=specP (X:=(List ByteArray) × ByteArray × Unit) fun x=>zch x.1 x.2.1
theorem C121_eq {list s} {y} (h:zch list s=some y):C121 [av .shr list,av .shr s]=some (Res.res y):=zaf (x:=(list,s,())) h
def g121:Cfg:={ P:=Tryz.prog,take:=[],keep:=[((121,2),{ hd:=[0,1,5],bx:=[],ex:=[],rt:=[4] })],gho:=[],ctx:=[] }
@[simp] theorem g121_s:type_of% (cfg_s (g:=g121) rfl):=cfg_s rfl
theorem w121 {list s} {y} (hp:zch list s=some y):∃ m,callo g121 0 121 [av .shr list,av .shr s] mem0=some (Res.res y,m):=by
 refine st0 [.tmp 4] Tryz.func121 ?_
 unfold zch at hp
 simp [Tryz.f121]
 obtain ⟨r_15,h_16,hp⟩:=zab hp
 obtain ⟨I_3,I_3_⟩:=exV fun (s_1:Int) (σ:St)=>(σ.env 0=uL .shr list∧σ.env 1=.one (.s (.string s))∧σ.env 5=uI s_1)∧σ.mem=mem0
 obtain ⟨X_4,X_4_⟩:=exV fun (r_15:(Int) ⊕ (Unit)) (out:Out)=>Sum.elim (fun r_15=>∃ σ:St,out=.ret σ∧σ.env 4=uI r_15∧σ.mem=mem0) (fun r_15=>∃ σ:St,out=.exit 0 σ∧σ.mem=mem0) r_15
 refine loopP ({ hd:=[0,1,5],bx:=[],ex:=[],rt:=[4] }) I_3 X_4 h_16 (by exact rfl) ?_ ?_ ?_
 ·rw [I_3_]
  exact ⟨by simp [zac,zaa],by simp [zaa]⟩
 ·intro s_1 σ_5 a_2 hI hp
  rw [I_3_] at hI
  obtain ⟨q_7,q_6⟩:=hI
  try simp [q_7,q_6]
  rcases zad hp with ⟨h_8,hp⟩|⟨h_8,hp⟩
  ·try simp at h_8
   obtain ⟨e_9,h_10,hp⟩:=zab hp
   have b_11:=at_lo h_10
   have b_12:=at_hi h_10
   try simp at b_11 b_12
   have c_13:=seg_at' h_10 0 1 (by decide) (ds:=[.sc (.string e_9)]) rfl
   try simp at c_13
   try simp [q_7,q_6,h_8,b_11,b_12,c_13]
   rcases zad hp with ⟨h_14,hp⟩|⟨h_14,hp⟩
   ·try simp at h_14
    cases hp
    try simp [q_7,q_6,h_8,h_14]
    refine zal ?_
    rw [X_4_]
    exact ⟨_,rfl,by simp [zac,zaa,q_7,q_6,h_8,h_14],by simp [zaa,q_7,q_6,h_8,h_14]⟩
   ·try simp at h_14
    cases hp
    try simp [q_7,q_6,h_8,h_14]
    refine zag ?_
    rw [I_3_]
    exact ⟨by simp [zac,zaa,q_7,q_6,h_8,h_14],by simp [zaa,q_7,q_6,h_8,h_14]⟩
  ·try simp at h_8
   cases hp
   try simp [q_7,q_6,h_8]
   refine zak ?_
   rw [X_4_]
   exact ⟨_,rfl,by simp [zaa,q_7,q_6,h_8]⟩
 ·intro out hX
  rw [X_4_] at hX
  rcases r_15 with r_15 | r_15
  ·simp only [Sum.elim_inl,Sum.elim_inr] at hX hp
   obtain ⟨σ_17,rfl,q_19,q_18⟩:=hX
   cases hp
   simp [Goal,FnEnd,q_19,q_18]
  ·simp only [Sum.elim_inl,Sum.elim_inr] at hX hp
   obtain ⟨σ_20,rfl,q_21⟩:=hX
   cases hp
   simp [Goal,FnEnd,q_21]
theorem pc121:PC Tryz.prog 121 C121:=pc_of (g:=g121) (zah [] rfl trivial) (ent Tryz.func121) fun x y h=>w121 h

def C85:List AV→Option AV:=specP (X:=(List ByteArray) × Unit) fun x=>zbu x.1
theorem C85_eq {list} {y} (h:zbu list=some y):C85 [av .shr list]=some (Res.res y):=zaf (x:=(list,())) h
def g85:Cfg:={ P:=Tryz.prog,take:=[],keep:=[((85,2),{ hd:=[0,3],bx:=[],ex:=[0],rt:=[2] })],gho:=[],ctx:=[(62,C62),(120,C120),(121,C121)] }
@[simp] theorem g85_s:type_of% (cfg_s (g:=g85) rfl):=cfg_s rfl
theorem w85 {list} {y} (hp:zbu list=some y):∃ m,callo g85 0 85 [av .shr list] mem0=some (Res.res y,m):=by
 refine st0 [.tmp 2] Tryz.func85 ?_
 unfold zbu at hp
 simp [Tryz.f85]
 obtain ⟨r_27,h_28,hp⟩:=zab hp
 obtain ⟨I_3,I_3_⟩:=exV fun (s_1:Int) (σ:St)=>(σ.env 0=uL .shr list∧σ.env 3=uI s_1)∧σ.mem=mem0
 obtain ⟨X_4,X_4_⟩:=exV fun (r_27:(Unit) ⊕ (Unit)) (out:Out)=>Sum.elim (fun r_27=>∃ σ:St,out=.ret σ∧σ.env 2=uB false∧σ.mem=mem0) (fun r_27=>∃ σ:St,out=.exit 0 σ∧σ.env 0=uL .shr list∧σ.mem=mem0) r_27
 refine loopP ({ hd:=[0,3],bx:=[],ex:=[0],rt:=[2] }) I_3 X_4 h_28 (by exact rfl) ?_ ?_ ?_
 ·rw [I_3_]
  exact ⟨by simp [zac,zaa],by simp [zaa]⟩
 ·intro s_1 σ_5 a_2 hI hp
  rw [I_3_] at hI
  obtain ⟨q_7,q_6⟩:=hI
  try simp [q_7,q_6]
  rcases zad hp with ⟨h_8,hp⟩|⟨h_8,hp⟩
  ·try simp at h_8
   obtain ⟨e_9,h_10,hp⟩:=zab hp
   have b_11:=at_lo h_10
   have b_12:=at_hi h_10
   try simp at b_11 b_12
   have c_13:=seg_at' h_10 0 1 (by decide) (ds:=[.sc (.string e_9)]) rfl
   try simp at c_13
   obtain ⟨y_14,h_15,hp⟩:=zab hp
   have c_16:=C120_eq h_15
   simp at c_16
   try simp [q_7,q_6,h_8,b_11,b_12,c_13,c_16]
   rcases zad hp with ⟨h_17,hp⟩|⟨h_17,hp⟩
   ·try simp at h_17
    obtain ⟨e_18,h_19,hp⟩:=zab hp
    cases Option.some.inj (h_10.symm.trans h_19)
    have b_20:=at_lo h_10
    have b_21:=at_hi h_10
    try simp at b_20 b_21
    have c_22:=seg_at' h_10 0 1 (by decide) (ds:=[.sc (.string e_9)]) rfl
    try simp at c_22
    obtain ⟨y_23,h_24,hp⟩:=zab hp
    have c_25:=C121_eq h_24
    simp at c_25
    try simp [q_7,q_6,h_8,h_17,b_20,b_21,c_22,c_25]
    rcases zad hp with ⟨h_26,hp⟩|⟨h_26,hp⟩
    ·try simp at h_26
     cases hp
     try simp [q_7,q_6,h_8,h_17,h_26]
     refine zal ?_
     rw [X_4_]
     exact ⟨_,rfl,by simp [zac,zaa,q_7,q_6,h_8,h_17,h_26],by simp [zaa,q_7,q_6,h_8,h_17,h_26]⟩
    ·try simp at h_26
     cases hp
     try simp [q_7,q_6,h_8,h_17,h_26]
     refine zag ?_
     rw [I_3_]
     exact ⟨by simp [zac,zaa,q_7,q_6,h_8,h_17,h_26],by simp [zaa,q_7,q_6,h_8,h_17,h_26]⟩
   ·try simp at h_17
    cases hp
    try simp [q_7,q_6,h_8,h_17]
    refine zal ?_
    rw [X_4_]
    exact ⟨_,rfl,by simp [zac,zaa,q_7,q_6,h_8,h_17],by simp [zaa,q_7,q_6,h_8,h_17]⟩
  ·try simp at h_8
   cases hp
   try simp [q_7,q_6,h_8]
   refine zak ?_
   rw [X_4_]
   exact ⟨_,rfl,by simp [zac,zaa,q_7,q_6,h_8],by simp [zaa,q_7,q_6,h_8]⟩
 ·intro out hX
  rw [X_4_] at hX
  rcases r_27 with r_27 | r_27
  ·simp only [Sum.elim_inl,Sum.elim_inr] at hX hp
   obtain ⟨σ_29,rfl,q_31,q_30⟩:=hX
   cases hp
   simp [Goal,FnEnd,q_31,q_30]
  ·simp only [Sum.elim_inl,Sum.elim_inr] at hX hp
   obtain ⟨σ_32,rfl,q_34,q_33⟩:=hX
   obtain ⟨y_35,h_36,hp⟩:=zab hp
   have c_37:=zgz h_36
   simp at c_37
   cases hp
   simp [Goal,FnEnd,q_34,q_33,c_37]
theorem pc85:PC Tryz.prog 85 C85:=pc_of (g:=g85) (zah _ g85_s.2.1 ⟨pc62,pc120,pc121,trivial⟩) (ent Tryz.func85) fun x y h=>w85 h

def C122:List AV→Option AV:=specP (X:=(List Int) × Unit) fun x=>zby x.1
theorem C122_eq {list} {y} (h:zby list=some y):C122 [av .shr list]=some (Res.res y):=zaf (x:=(list,())) h
def g122:Cfg:={ P:=Tryz.prog,take:=[],keep:=[((122,3),{ hd:=[0,3,4],bx:=[],ex:=[3],rt:=[2] })],gho:=[],ctx:=[(118,C118)] }
@[simp] theorem g122_s:type_of% (cfg_s (g:=g122) rfl):=cfg_s rfl
theorem w122 {list} {y} (hp:zby list=some y):∃ m,callo g122 0 122 [av .shr list] mem0=some (Res.res y,m):=by
 refine st0 [.tmp 2] Tryz.func122 ?_
 unfold zby at hp
 simp [Tryz.f122]
 obtain ⟨r_20,h_21,hp⟩:=zab hp
 obtain ⟨I_3,I_3_⟩:=exV fun (s_1:ByteArray × Int) (σ:St)=>(σ.env 0=uL .shr list∧σ.env 3=.one (.s (.string s_1.1))∧σ.env 4=uI s_1.2)∧σ.mem=mem0
 obtain ⟨X_4,X_4_⟩:=exV fun (r_20:ByteArray) (out:Out)=>∃ σ:St,out=.exit 0 σ∧σ.env 3=.one (.s (.string r_20))∧σ.mem=mem0
 refine loopP ({ hd:=[0,3,4],bx:=[],ex:=[3],rt:=[2] }) I_3 X_4 h_21 (by exact rfl) ?_ ?_ ?_
 ·rw [I_3_]
  exact ⟨by simp [zac,zaa],by simp [zaa]⟩
 ·intro s_1 σ_5 a_2 hI hp
  rw [I_3_] at hI
  obtain ⟨q_7,q_6⟩:=hI
  try simp [q_7,q_6]
  rcases zad hp with ⟨h_8,hp⟩|⟨h_8,hp⟩
  ·try simp at h_8
   obtain ⟨e_9,h_10,hp⟩:=zab hp
   have b_11:=at_lo h_10
   have b_12:=at_hi h_10
   try simp at b_11 b_12
   have c_13:=seg_at' h_10 0 1 (by decide) (ds:=[.sc (.int .i64 e_9)]) rfl
   try simp at c_13
   obtain ⟨y_14,h_15,hp⟩:=zab hp
   have c_16:=C118_eq h_15
   simp at c_16
   obtain ⟨z_17,h_18,hp⟩:=zab hp
   have c_19:=zds (P:=Tryz.prog) (t:=9) h_18
   cases hp
   try simp [q_7,q_6,h_8,b_11,b_12,c_13,c_16,c_19]
   refine zag ?_
   rw [I_3_]
   exact ⟨by simp [zac,zaa,q_7,q_6,h_8,b_11,b_12,c_13,c_16,c_19],by simp [zaa,q_7,q_6,h_8,b_11,b_12,c_13,c_16,c_19]⟩
  ·try simp at h_8
   cases hp
   try simp [q_7,q_6,h_8]
   refine zak ?_
   rw [X_4_]
   exact ⟨_,rfl,by simp [zac,zaa,q_7,q_6,h_8],by simp [zaa,q_7,q_6,h_8]⟩
 ·intro out hX
  rw [X_4_] at hX
  obtain ⟨σ_22,rfl,q_24,q_23⟩:=hX
  cases hp
  simp [Goal,FnEnd,q_24,q_23]
theorem pc122:PC Tryz.prog 122 C122:=pc_of (g:=g122) (zah _ g122_s.2.1 ⟨pc118,trivial⟩) (ent Tryz.func122) fun x y h=>w122 h

def C86:List AV→Option AV:=specP (X:=TStructure × Int × Unit) fun x=>zfb x.1 x.2.1
theorem C86_eq {s i} {y} (h:zfb s i=some y):C86 [av .shr s,av .shr i]=some (Res.res y):=zaf (x:=(s,i,())) h
def g86:Cfg:={ P:=Tryz.prog,take:=[(86,44),(86,51)],keep:=[((86,7),{ hd:=[1,2,6,7,8],bx:=[],ex:=[6,7],rt:=[4] })],gho:=[],ctx:=[(83,C83),(87,C87),(118,C118),(122,C122),(123,C123)] }
@[simp] theorem g86_s:type_of% (cfg_s (g:=g86) rfl):=cfg_s rfl
theorem w86 {s i} {y} (hp:zfb s i=some y):∃ m,callo g86 0 86 [av .shr s,av .shr i] mem0=some (Res.res y,m):=by
 refine st0 [.tmp 4] Tryz.func86 ?_
 unfold zfb at hp
 obtain ⟨e_1,h_2,hp⟩:=zab hp
 have b_3:=at_lo h_2
 have b_4:=at_hi h_2
 try simp at b_3 b_4
 have c_5:=seg_at' h_2 0 4 (by decide) (ds:=[.sl e_1.vars.length (encL e_1.vars),.sl e_1.reach.length (encL e_1.reach),.sc (.int .i64 e_1.shared),.sc (.int .i64 e_1.many)]) rfl
 try simp at c_5
 obtain ⟨y_6,h_7,hp⟩:=zab hp
 have c_8:=C122_eq h_7
 simp at c_8
 obtain ⟨y_9,h_10,hp⟩:=zab hp
 have c_11:=C122_eq h_10
 simp at c_11
 obtain ⟨z_12,h_13,hp⟩:=zab hp
 have c_14:=zds (P:=Tryz.prog) (t:=9) h_13
 obtain ⟨y_15,h_16,hp⟩:=zab hp
 have c_17:=C118_eq h_16
 simp at c_17
 obtain ⟨z_18,h_19,hp⟩:=zab hp
 have c_20:=zds (P:=Tryz.prog) (t:=9) h_19
 simp [Tryz.f86,b_3,b_4,c_5,c_8,c_11,c_14,c_17,c_20]
 rcases zad hp with ⟨h_21,hp⟩|⟨h_21,hp⟩
 ·try simp at h_21
  obtain ⟨z_22,h_23,hp⟩:=zab hp
  have c_24:=zds (P:=Tryz.prog) (t:=9) h_23
  try simp [h_21,c_24]
  obtain ⟨r_51,h_52,hp⟩:=zab hp
  obtain ⟨I_27,I_27_⟩:=exV fun (s_25:(List ByteArray) × Int) (σ:St)=>(σ.env 1=uI i∧σ.env 2=uP (1,2)∧σ.env 6=.one (.s (.string z_22))∧σ.env 7=uL .own s_25.1∧σ.env 8=uI s_25.2∧σ.mem (1,2)=some [cL .shr s.nodes,cL .shr s.next]∧σ.mem (1,5)=some [cL .shr e_1.vars,cL .shr e_1.reach,cI e_1.shared,cI e_1.many])∧NoBox [(1,2),(1,5)] σ.mem
  obtain ⟨X_28,X_28_⟩:=exV fun (r_51:(List ByteArray)) (out:Out)=>∃ σ:St,out=.exit 0 σ∧(σ.env 6=.one (.s (.string z_22))∧σ.env 7=uL .own r_51∧σ.mem (1,2)=some [cL .shr s.nodes,cL .shr s.next]∧σ.mem (1,5)=some [cL .shr e_1.vars,cL .shr e_1.reach,cI e_1.shared,cI e_1.many])∧NoBox [(1,2),(1,5)] σ.mem
  refine loopP ({ hd:=[1,2,6,7,8],bx:=[],ex:=[6,7],rt:=[4] }) I_27 X_28 h_52 (by exact rfl) ?_ ?_ ?_
  ·rw [I_27_]
   exact ⟨by simp [zac,zaa,h_21],NoBox.restrict (by intro k hk hb;simp at hk hb;simp [hk,hb,h_21])⟩
  ·intro s_25 σ_29 a_26 hI hp
   rw [I_27_] at hI
   obtain ⟨q_31,hn_30⟩:=hI
   try simp [h_21,q_31]
   rcases zad hp with ⟨h_32,hp⟩|⟨h_32,hp⟩
   ·try simp at h_32
    obtain ⟨y_33,h_34,hp⟩:=zab hp
    have c_35:=C83_eq h_34
    simp at c_35
    try simp [h_21,q_31,h_32,c_35]
    rcases zad hp with ⟨h_36,hp⟩|⟨h_36,hp⟩
    ·try simp at h_36
     obtain ⟨y_37,h_38,hp⟩:=zab hp
     have c_39:=zsl h_38
     simp at c_39
     obtain ⟨_,h_40,hp⟩:=zab hp
     have b_41:=zav h_40
     try simp at b_41
     cases hp
     try simp [h_21,q_31,h_32,h_36,c_39,b_41]
     refine zag ?_
     rw [I_27_]
     exact ⟨by simp [zac,zaa,h_21,q_31,h_32,h_36,c_39,b_41],NoBox.restrict (by intro k hk hb;simp at hk hb;simp [hk,hb,h_21,q_31,h_32,h_36,c_39,b_41,hn_30 k (by simp [hk,hb])])⟩
    ·try simp at h_36
     try simp [h_21,q_31,h_32,h_36]
     rcases zad hp with ⟨h_42,hp⟩|⟨h_42,hp⟩
     ·try simp at h_42
      obtain ⟨y_43,h_44,hp⟩:=zab hp
      have c_45:=zsl h_44
      simp at c_45
      obtain ⟨z_46,h_47,hp⟩:=zab hp
      have c_48:=zds (P:=Tryz.prog) (t:=9) h_47
      obtain ⟨_,h_49,hp⟩:=zab hp
      have b_50:=zav h_49
      try simp at b_50
      cases hp
      try simp [h_21,q_31,h_32,h_36,h_42,c_45,c_48,b_50]
      refine zag ?_
      rw [I_27_]
      exact ⟨by simp [zac,zaa,h_21,q_31,h_32,h_36,h_42,c_45,c_48,b_50],NoBox.restrict (by intro k hk hb;simp at hk hb;simp [hk,hb,h_21,q_31,h_32,h_36,h_42,c_45,c_48,b_50,hn_30 k (by simp [hk,hb])])⟩
     ·try simp at h_42
      cases hp
      try simp [h_21,q_31,h_32,h_36,h_42]
      refine zag ?_
      rw [I_27_]
      exact ⟨by simp [zac,zaa,h_21,q_31,h_32,h_36,h_42],NoBox.restrict (by intro k hk hb;simp at hk hb;simp [hk,hb,h_21,q_31,h_32,h_36,h_42,hn_30 k (by simp [hk,hb])])⟩
   ·try simp at h_32
    cases hp
    try simp [h_21,q_31,h_32]
    refine zak ?_
    rw [X_28_]
    exact ⟨_,rfl,by simp [zac,zaa,h_21,q_31,h_32],NoBox.restrict (by intro k hk hb;simp at hk hb;simp [hk,hb,h_21,q_31,h_32,hn_30 k (by simp [hk,hb])])⟩
  ·intro out hX
   rw [X_28_] at hX
   obtain ⟨σ_53,rfl,q_55,hn_54⟩:=hX
   try simp [h_21,q_55]
   rcases zad hp with ⟨h_56,hp⟩|⟨h_56,hp⟩
   ·try simp at h_56
    obtain ⟨z_57,h_58,hp⟩:=zab hp
    have c_59:=zds (P:=Tryz.prog) (t:=9) h_58
    obtain ⟨y_60,h_61,hp⟩:=zab hp
    have c_62:=C87_eq h_61
    simp at c_62
    obtain ⟨z_63,h_64,hp⟩:=zab hp
    have c_65:=zds (P:=Tryz.prog) (t:=9) h_64
    cases hp
    simp [Goal,FnEnd,h_21,q_55,h_56,c_59,c_62,c_65]
   ·try simp at h_56
    cases hp
    simp [Goal,FnEnd,h_21,q_55,h_56]
 ·try simp at h_21
  try simp [h_21]
  obtain ⟨r_92,h_93,hp⟩:=zab hp
  obtain ⟨I_68,I_68_⟩:=exV fun (s_66:(List ByteArray) × Int) (σ:St)=>(σ.env 1=uI i∧σ.env 2=uP (1,2)∧σ.env 6=.one (.s (.string z_18))∧σ.env 7=uL .own s_66.1∧σ.env 8=uI s_66.2∧σ.mem (1,2)=some [cL .shr s.nodes,cL .shr s.next]∧σ.mem (1,5)=some [cL .shr e_1.vars,cL .shr e_1.reach,cI e_1.shared,cI e_1.many])∧NoBox [(1,2),(1,5)] σ.mem
  obtain ⟨X_69,X_69_⟩:=exV fun (r_92:(List ByteArray)) (out:Out)=>∃ σ:St,out=.exit 0 σ∧(σ.env 6=.one (.s (.string z_18))∧σ.env 7=uL .own r_92∧σ.mem (1,2)=some [cL .shr s.nodes,cL .shr s.next]∧σ.mem (1,5)=some [cL .shr e_1.vars,cL .shr e_1.reach,cI e_1.shared,cI e_1.many])∧NoBox [(1,2),(1,5)] σ.mem
  refine loopP ({ hd:=[1,2,6,7,8],bx:=[],ex:=[6,7],rt:=[4] }) I_68 X_69 h_93 (by exact rfl) ?_ ?_ ?_
  ·rw [I_68_]
   exact ⟨by simp [zac,zaa,h_21],NoBox.restrict (by intro k hk hb;simp at hk hb;simp [hk,hb,h_21])⟩
  ·intro s_66 σ_70 a_67 hI hp
   rw [I_68_] at hI
   obtain ⟨q_72,hn_71⟩:=hI
   try simp [h_21,q_72]
   rcases zad hp with ⟨h_73,hp⟩|⟨h_73,hp⟩
   ·try simp at h_73
    obtain ⟨y_74,h_75,hp⟩:=zab hp
    have c_76:=C83_eq h_75
    simp at c_76
    try simp [h_21,q_72,h_73,c_76]
    rcases zad hp with ⟨h_77,hp⟩|⟨h_77,hp⟩
    ·try simp at h_77
     obtain ⟨y_78,h_79,hp⟩:=zab hp
     have c_80:=zsl h_79
     simp at c_80
     obtain ⟨_,h_81,hp⟩:=zab hp
     have b_82:=zav h_81
     try simp at b_82
     cases hp
     try simp [h_21,q_72,h_73,h_77,c_80,b_82]
     refine zag ?_
     rw [I_68_]
     exact ⟨by simp [zac,zaa,h_21,q_72,h_73,h_77,c_80,b_82],NoBox.restrict (by intro k hk hb;simp at hk hb;simp [hk,hb,h_21,q_72,h_73,h_77,c_80,b_82,hn_71 k (by simp [hk,hb])])⟩
    ·try simp at h_77
     try simp [h_21,q_72,h_73,h_77]
     rcases zad hp with ⟨h_83,hp⟩|⟨h_83,hp⟩
     ·try simp at h_83
      obtain ⟨y_84,h_85,hp⟩:=zab hp
      have c_86:=zsl h_85
      simp at c_86
      obtain ⟨z_87,h_88,hp⟩:=zab hp
      have c_89:=zds (P:=Tryz.prog) (t:=9) h_88
      obtain ⟨_,h_90,hp⟩:=zab hp
      have b_91:=zav h_90
      try simp at b_91
      cases hp
      try simp [h_21,q_72,h_73,h_77,h_83,c_86,c_89,b_91]
      refine zag ?_
      rw [I_68_]
      exact ⟨by simp [zac,zaa,h_21,q_72,h_73,h_77,h_83,c_86,c_89,b_91],NoBox.restrict (by intro k hk hb;simp at hk hb;simp [hk,hb,h_21,q_72,h_73,h_77,h_83,c_86,c_89,b_91,hn_71 k (by simp [hk,hb])])⟩
     ·try simp at h_83
      cases hp
      try simp [h_21,q_72,h_73,h_77,h_83]
      refine zag ?_
      rw [I_68_]
      exact ⟨by simp [zac,zaa,h_21,q_72,h_73,h_77,h_83],NoBox.restrict (by intro k hk hb;simp at hk hb;simp [hk,hb,h_21,q_72,h_73,h_77,h_83,hn_71 k (by simp [hk,hb])])⟩
   ·try simp at h_73
    cases hp
    try simp [h_21,q_72,h_73]
    refine zak ?_
    rw [X_69_]
    exact ⟨_,rfl,by simp [zac,zaa,h_21,q_72,h_73],NoBox.restrict (by intro k hk hb;simp at hk hb;simp [hk,hb,h_21,q_72,h_73,hn_71 k (by simp [hk,hb])])⟩
  ·intro out hX
   rw [X_69_] at hX
   obtain ⟨σ_94,rfl,q_96,hn_95⟩:=hX
   try simp [h_21,q_96]
   rcases zad hp with ⟨h_97,hp⟩|⟨h_97,hp⟩
   ·try simp at h_97
    obtain ⟨z_98,h_99,hp⟩:=zab hp
    have c_100:=zds (P:=Tryz.prog) (t:=9) h_99
    obtain ⟨y_101,h_102,hp⟩:=zab hp
    have c_103:=C87_eq h_102
    simp at c_103
    obtain ⟨z_104,h_105,hp⟩:=zab hp
    have c_106:=zds (P:=Tryz.prog) (t:=9) h_105
    cases hp
    simp [Goal,FnEnd,h_21,q_96,h_97,c_100,c_103,c_106]
   ·try simp at h_97
    cases hp
    simp [Goal,FnEnd,h_21,q_96,h_97]
theorem pc86:PC Tryz.prog 86 C86:=pc_of (g:=g86) (zah _ g86_s.2.1 ⟨pc83,pc87,pc118,pc122,pc123,trivial⟩) (ent Tryz.func86) fun x y h=>w86 h

def C63:List AV→Option AV:=specP (X:=(List ByteArray) × TStructure × Unit) fun x=>zay x.1 x.2.1
theorem C63_eq {vars s} {y} (h:zay vars s=some y):C63 [av .shr vars,av .shr s]=some (Res.res y):=zaf (x:=(vars,s,())) h
def g63:Cfg:={ P:=Tryz.prog,take:=[(63,25)],keep:=[((63,5),{ hd:=[3,5,6],bx:=[],ex:=[5],rt:=[4] })],gho:=[],ctx:=[(57,C57),(85,C85),(86,C86),(87,C87)] }
@[simp] theorem g63_s:type_of% (cfg_s (g:=g63) rfl):=cfg_s rfl
theorem w63 {vars s} {y} (hp:zay vars s=some y):∃ m,callo g63 0 63 [av .shr vars,av .shr s] mem0=some (Res.res y,m):=by
 refine st0 [.tmp 4] Tryz.func63 ?_
 unfold zay at hp
 obtain ⟨y_1,h_2,hp⟩:=zab hp
 have c_3:=C85_eq h_2
 simp at c_3
 simp [Tryz.f63,c_3]
 rcases zad hp with ⟨h_4,hp⟩|⟨h_4,hp⟩
 ·try simp at h_4
  obtain ⟨y_5,h_6,hp⟩:=zab hp
  have c_7:=C57_eq h_6
  simp at c_7
  try simp [h_4,c_7]
  rcases zad hp with ⟨h_8,hp⟩|⟨h_8,hp⟩
  ·try simp at h_8
   try simp [h_4,h_8]
   obtain ⟨r_22,h_23,hp⟩:=zab hp
   obtain ⟨I_11,I_11_⟩:=exV fun (s_9:(List ByteArray) × Int) (σ:St)=>(σ.env 3=uP (1,3)∧σ.env 5=uL .own s_9.1∧σ.env 6=uI s_9.2∧σ.mem (1,3)=some [cL .shr s.nodes,cL .shr s.next])∧NoBox [(1,3)] σ.mem
   obtain ⟨X_12,X_12_⟩:=exV fun (r_22:(List ByteArray)) (out:Out)=>∃ σ:St,out=.exit 0 σ∧(σ.env 5=uL .own r_22∧σ.mem (1,3)=some [cL .shr s.nodes,cL .shr s.next])∧NoBox [(1,3)] σ.mem
   refine loopP ({ hd:=[3,5,6],bx:=[],ex:=[5],rt:=[4] }) I_11 X_12 h_23 (by exact rfl) ?_ ?_ ?_
   ·rw [I_11_]
    exact ⟨by simp [zac,zaa,h_4,h_8],NoBox.restrict (by intro k hk hb;simp at hk hb;simp [hk,hb,h_4,h_8])⟩
   ·intro s_9 σ_13 a_10 hI hp
    rw [I_11_] at hI
    obtain ⟨q_15,hn_14⟩:=hI
    try simp [h_4,h_8,q_15]
    rcases zad hp with ⟨h_16,hp⟩|⟨h_16,hp⟩
    ·try simp at h_16
     obtain ⟨y_17,h_18,hp⟩:=zab hp
     have c_19:=C86_eq h_18
     simp at c_19
     obtain ⟨_,h_20,hp⟩:=zab hp
     have b_21:=zav h_20
     try simp at b_21
     cases hp
     try simp [h_4,h_8,q_15,h_16,c_19,b_21]
     refine zag ?_
     rw [I_11_]
     exact ⟨by simp [zac,zaa,h_4,h_8,q_15,h_16,c_19,b_21],NoBox.restrict (by intro k hk hb;simp at hk hb;simp [hk,hb,h_4,h_8,q_15,h_16,c_19,b_21,hn_14 k (by simp [hk,hb])])⟩
    ·try simp at h_16
     cases hp
     try simp [h_4,h_8,q_15,h_16]
     refine zak ?_
     rw [X_12_]
     exact ⟨_,rfl,by simp [zac,zaa,h_4,h_8,q_15,h_16],NoBox.restrict (by intro k hk hb;simp at hk hb;simp [hk,hb,h_4,h_8,q_15,h_16,hn_14 k (by simp [hk,hb])])⟩
   ·intro out hX
    rw [X_12_] at hX
    obtain ⟨σ_24,rfl,q_26,hn_25⟩:=hX
    try simp [h_4,h_8,q_26]
    rcases zad hp with ⟨h_27,hp⟩|⟨h_27,hp⟩
    ·try simp at h_27
     cases hp
     simp [Goal,FnEnd,h_4,h_8,q_26,h_27]
    ·try simp at h_27
     obtain ⟨y_28,h_29,hp⟩:=zab hp
     have c_30:=C87_eq h_29
     simp at c_30
     cases hp
     simp [Goal,FnEnd,h_4,h_8,q_26,h_27,c_30]
  ·try simp at h_8
   cases hp
   simp [Goal,FnEnd,h_4,h_8]
 ·try simp at h_4
  cases hp
  simp [Goal,FnEnd,h_4]
theorem pc63:PC Tryz.prog 63 C63:=pc_of (g:=g63) (zah _ g63_s.2.1 ⟨pc57,pc85,pc86,pc87,trivial⟩) (ent Tryz.func63) fun x y h=>w63 h

def C31:List AV→Option AV:=specP (X:=TStructure × Unit) fun x=>zed x.1
theorem C31_eq {s} {y} (h:zed s=some y):C31 [av .shr s]=some (Res.res y):=zaf (x:=(s,())) h
def g31:Cfg:={ P:=Tryz.prog,take:=[],keep:=[],gho:=[],ctx:=[(58,C58),(62,C62),(63,C63)] }
@[simp] theorem g31_s:type_of% (cfg_s (g:=g31) rfl):=cfg_s rfl
theorem w31 {s} {y} (hp:zed s=some y):∃ m,callo g31 0 31 [av .shr s] mem0=some (Res.res y,m):=by
 refine st0 [.tmp 2] Tryz.func31 ?_
 unfold zed at hp
 simp [Tryz.f31]
 rcases zad hp with ⟨h_1,hp⟩|⟨h_1,hp⟩
 ·try simp at h_1
  cases hp
  simp [Goal,FnEnd,h_1]
 ·try simp at h_1
  obtain ⟨y_2,h_3,hp⟩:=zab hp
  have c_4:=C58_eq h_3
  simp at c_4
  obtain ⟨y_5,h_6,hp⟩:=zab hp
  have c_7:=zgz h_6
  simp at c_7
  try simp [h_1,c_4,c_7]
  rcases zad hp with ⟨h_8,hp⟩|⟨h_8,hp⟩
  ·try simp at h_8
   obtain ⟨z_9,h_10,hp⟩:=zab hp
   have c_12:=slc_1 h_10
   have c_13:=slc_2 h_10
   have c_14:=slc_3 h_10
   have c_15:=slc_4 h_10
   try simp at c_12 c_13 c_14
   try simp [c_14] at c_15
   obtain ⟨y_16,h_17,hp⟩:=zab hp
   have c_18:=C63_eq h_17
   simp at c_18
   cases hp
   simp [Goal,FnEnd,h_1,h_8,c_12,c_13,c_14,c_15,c_18]
  ·try simp at h_8
   cases hp
   simp [Goal,FnEnd,h_1,h_8]
theorem pc31:PC Tryz.prog 31 C31:=pc_of (g:=g31) (zah _ g31_s.2.1 ⟨pc58,pc62,pc63,trivial⟩) (ent Tryz.func31) fun x y h=>w31 h

def C9:List AV→Option AV:=specP (X:=(List TStructure) × TStructure × Unit) fun x=>zdi x.1 x.2.1
theorem C9_eq {set s} {y} (h:zdi set s=some y):C9 [av .shr set,av .shr s]=some (Res.res y):=zaf (x:=(set,s,())) h
def g9:Cfg:={ P:=Tryz.prog,take:=[(9,49),(9,54),(9,64),(9,69)],keep:=[((9,6),{ hd:=[0,5,6,7,8,9],bx:=[],ex:=[0,5,6,7,8],rt:=[4] }),((9,10),{ hd:=[0,5,6,7,8,10],bx:=[],ex:=[5,6,8],rt:=[4] })],gho:=[],ctx:=[(30,C30),(31,C31),(32,C32)] }
@[simp] theorem g9_s:type_of% (cfg_s (g:=g9) rfl):=cfg_s rfl
theorem w9 {set s} {y} (hp:zdi set s=some y):∃ m,callo g9 0 9 [av .shr set,av .shr s] mem0=some (Res.res y,m):=by
 refine st0 [.tmp 4] Tryz.func9 ?_
 unfold zdi at hp
 obtain ⟨y_1,h_2,hp⟩:=zab hp
 have c_3:=C30_eq h_2
 simp at c_3
 obtain ⟨y_4,h_5,hp⟩:=zab hp
 have c_6:=C31_eq h_5
 simp at c_6
 simp [Tryz.f9,c_3,c_6]
 obtain ⟨r_24,h_25,hp⟩:=zab hp
 obtain ⟨I_9,I_9_⟩:=exV fun (s_7:Bool × Int) (σ:St)=>(σ.env 0=uL .shr set∧σ.env 5=.one (.l .own 0 [])∧σ.env 6=uP (1,6)∧σ.env 7=.one (.s (.string y_4))∧σ.env 8=uB s_7.1∧σ.env 9=uI s_7.2∧σ.mem (1,3)=some [cL .shr s.nodes,cL .shr s.next]∧σ.mem (1,6)=some [cL .own y_1.nodes,cL .own y_1.next])∧NoBox [(1,3),(1,6)] σ.mem
 obtain ⟨X_10,X_10_⟩:=exV fun (r_24:Bool) (out:Out)=>∃ σ:St,out=.exit 0 σ∧(σ.env 0=uL .shr set∧σ.env 5=.one (.l .own 0 [])∧σ.env 6=uP (1,6)∧σ.env 7=.one (.s (.string y_4))∧σ.env 8=uB r_24∧σ.mem (1,3)=some [cL .shr s.nodes,cL .shr s.next]∧σ.mem (1,6)=some [cL .own y_1.nodes,cL .own y_1.next])∧NoBox [(1,3),(1,6)] σ.mem
 refine loopP ({ hd:=[0,5,6,7,8,9],bx:=[],ex:=[0,5,6,7,8],rt:=[4] }) I_9 X_10 h_25 (by exact rfl) ?_ ?_ ?_
 ·rw [I_9_]
  exact ⟨by simp [zac,zaa],NoBox.restrict (by intro k hk hb;simp at hk hb;simp [hk,hb])⟩
 ·intro s_7 σ_11 a_8 hI hp
  rw [I_9_] at hI
  obtain ⟨q_13,hn_12⟩:=hI
  try simp [q_13]
  rcases zad hp with ⟨h_14,hp⟩|⟨h_14,hp⟩
  ·try simp at h_14
   try simp [q_13,h_14]
   rcases zad hp with ⟨h_15,hp⟩|⟨h_15,hp⟩
   ·try simp at h_15
    cases hp
    try simp [q_13,h_14,h_15]
    refine zag ?_
    rw [I_9_]
    exact ⟨by simp [zac,zaa,q_13,h_14,h_15],NoBox.restrict (by intro k hk hb;simp at hk hb;simp [hk,hb,q_13,h_14,h_15,hn_12 k (by simp [hk,hb])])⟩
   ·try simp at h_15
    obtain ⟨e_16,h_17,hp⟩:=zab hp
    have b_18:=at_lo h_17
    have b_19:=at_hi h_17
    try simp at b_18 b_19
    have c_20:=seg_at' h_17 0 2 (by decide) (ds:=[.sl e_16.nodes.length (encL e_16.nodes),.sl e_16.next.length (encL e_16.next)]) rfl
    try simp at c_20
    obtain ⟨y_21,h_22,hp⟩:=zab hp
    have c_23:=C31_eq h_22
    simp at c_23
    cases hp
    try simp [q_13,h_14,h_15,b_18,b_19,c_20,c_23]
    refine zag ?_
    rw [I_9_]
    exact ⟨by simp [zac,zaa,q_13,h_14,h_15,b_18,b_19,c_20,c_23],NoBox.restrict (by intro k hk hb;simp at hk hb;simp [hk,hb,q_13,h_14,h_15,b_18,b_19,c_20,c_23,hn_12 k (by simp [hk,hb])])⟩
  ·try simp at h_14
   cases hp
   try simp [q_13,h_14]
   refine zak ?_
   rw [X_10_]
   exact ⟨_,rfl,by simp [zac,zaa,q_13,h_14],NoBox.restrict (by intro k hk hb;simp at hk hb;simp [hk,hb,q_13,h_14,hn_12 k (by simp [hk,hb])])⟩
 ·intro out hX
  rw [X_10_] at hX
  obtain ⟨σ_26,rfl,q_28,hn_27⟩:=hX
  try simp [q_28]
  obtain ⟨r_82,h_83,hp⟩:=zab hp
  obtain ⟨I_31,I_31_⟩:=exV fun (s_29:(List TStructure) × Int × Bool) (σ:St)=>(σ.env 0=uL .shr set∧σ.env 5=uL .own s_29.1∧σ.env 6=uP (1,6)∧σ.env 7=.one (.s (.string y_4))∧σ.env 8=uB s_29.2.2∧σ.env 10=uI s_29.2.1∧σ.mem (1,3)=some [cL .shr s.nodes,cL .shr s.next]∧σ.mem (1,6)=some [cL .own y_1.nodes,cL .own y_1.next])∧NoBox [(1,3),(1,6)] σ.mem
  obtain ⟨X_32,X_32_⟩:=exV fun (r_82:(List TStructure) × Bool) (out:Out)=>∃ σ:St,out=.exit 2 σ∧(σ.env 5=uL .own r_82.1∧σ.env 6=uP (1,6)∧σ.env 8=uB r_82.2∧σ.mem (1,3)=some [cL .shr s.nodes,cL .shr s.next]∧σ.mem (1,6)=some [cL .own y_1.nodes,cL .own y_1.next])∧NoBox [(1,3),(1,6)] σ.mem
  refine loopP ({ hd:=[0,5,6,7,8,10],bx:=[],ex:=[5,6,8],rt:=[4] }) I_31 X_32 h_83 (by exact rfl) ?_ ?_ ?_
  ·rw [I_31_]
   exact ⟨by simp [zac,zaa,q_28],NoBox.restrict (by intro k hk hb;simp at hk hb;simp [hk,hb,q_28,hn_27 k (by simp [hk,hb])])⟩
  ·intro s_29 σ_33 a_30 hI hp
   rw [I_31_] at hI
   obtain ⟨q_35,hn_34⟩:=hI
   try simp [q_35]
   rcases zad hp with ⟨h_36,hp⟩|⟨h_36,hp⟩
   ·try simp at h_36
    try simp [q_35,h_36]
    rcases zad hp with ⟨h_37,hp⟩|⟨h_37,hp⟩
    ·try simp at h_37
     obtain ⟨e_38,h_39,hp⟩:=zab hp
     have b_40:=at_lo h_39
     have b_41:=at_hi h_39
     try simp at b_40 b_41
     have c_42:=seg_at' h_39 0 2 (by decide) (ds:=[.sl e_38.nodes.length (encL e_38.nodes),.sl e_38.next.length (encL e_38.next)]) rfl
     try simp at c_42
     obtain ⟨y_43,h_44,hp⟩:=zab hp
     have c_45:=zqo h_44
     simp at c_45
     obtain ⟨_,h_46,hp⟩:=zab hp
     have b_47:=zav h_46
     try simp at b_47
     cases hp
     try simp [q_35,h_36,h_37,b_40,b_41,c_42,c_45,b_47]
     refine zag ?_
     rw [I_31_]
     exact ⟨by simp [zac,zaa,q_35,h_36,h_37,b_40,b_41,c_42,c_45,b_47],NoBox.restrict (by intro k hk hb;simp at hk hb;simp [hk,hb,q_35,h_36,h_37,b_40,b_41,c_42,c_45,b_47,hn_34 k (by simp [hk,hb])])⟩
    ·try simp at h_37
     obtain ⟨e_48,h_49,hp⟩:=zab hp
     have b_50:=at_lo h_49
     have b_51:=at_hi h_49
     try simp at b_50 b_51
     have c_52:=seg_at' h_49 0 2 (by decide) (ds:=[.sl e_48.nodes.length (encL e_48.nodes),.sl e_48.next.length (encL e_48.next)]) rfl
     try simp at c_52
     obtain ⟨y_53,h_54,hp⟩:=zab hp
     have c_55:=C31_eq h_54
     simp at c_55
     try simp [q_35,h_36,h_37,b_50,b_51,c_52,c_55]
     rcases zad hp with ⟨h_56,hp⟩|⟨h_56,hp⟩
     ·try simp at h_56
      obtain ⟨y_57,h_58,hp⟩:=zab hp
      have c_59:=zqo h_58
      simp at c_59
      obtain ⟨_,h_60,hp⟩:=zab hp
      have b_61:=zav h_60
      try simp at b_61
      obtain ⟨e_62,h_63,hp⟩:=zab hp
      cases Option.some.inj (h_49.symm.trans h_63)
      have b_64:=at_lo h_49
      have b_65:=at_hi h_49
      try simp at b_64 b_65
      have c_66:=seg_at' h_49 0 2 (by decide) (ds:=[.sl e_48.nodes.length (encL e_48.nodes),.sl e_48.next.length (encL e_48.next)]) rfl
      try simp at c_66
      obtain ⟨y_67,h_68,hp⟩:=zab hp
      have c_69:=zqo h_68
      simp at c_69
      obtain ⟨_,h_70,hp⟩:=zab hp
      have b_71:=zav h_70
      try simp at b_71
      cases hp
      try simp [q_35,h_36,h_37,h_56,c_59,b_61,b_64,b_65,c_66,c_69,b_71]
      refine zag ?_
      rw [I_31_]
      exact ⟨by simp [zac,zaa,q_35,h_36,h_37,h_56,c_59,b_61,b_64,b_65,c_66,c_69,b_71],NoBox.restrict (by intro k hk hb;simp at hk hb;simp [hk,hb,q_35,h_36,h_37,h_56,c_59,b_61,b_64,b_65,c_66,c_69,b_71,hn_34 k (by simp [hk,hb])])⟩
     ·try simp at h_56
      obtain ⟨e_72,h_73,hp⟩:=zab hp
      cases Option.some.inj (h_49.symm.trans h_73)
      have b_74:=at_lo h_49
      have b_75:=at_hi h_49
      try simp at b_74 b_75
      have c_76:=seg_at' h_49 0 2 (by decide) (ds:=[.sl e_48.nodes.length (encL e_48.nodes),.sl e_48.next.length (encL e_48.next)]) rfl
      try simp at c_76
      obtain ⟨y_77,h_78,hp⟩:=zab hp
      have c_79:=zqo h_78
      simp at c_79
      obtain ⟨_,h_80,hp⟩:=zab hp
      have b_81:=zav h_80
      try simp at b_81
      cases hp
      try simp [q_35,h_36,h_37,h_56,b_74,b_75,c_76,c_79,b_81]
      refine zag ?_
      rw [I_31_]
      exact ⟨by simp [zac,zaa,q_35,h_36,h_37,h_56,b_74,b_75,c_76,c_79,b_81],NoBox.restrict (by intro k hk hb;simp at hk hb;simp [hk,hb,q_35,h_36,h_37,h_56,b_74,b_75,c_76,c_79,b_81,hn_34 k (by simp [hk,hb])])⟩
   ·try simp at h_36
    cases hp
    try simp [q_35,h_36]
    refine zak ?_
    rw [X_32_]
    exact ⟨_,rfl,by simp [zac,zaa,q_35,h_36],NoBox.restrict (by intro k hk hb;simp at hk hb;simp [hk,hb,q_35,h_36,hn_34 k (by simp [hk,hb])])⟩
  ·intro out hX
   rw [X_32_] at hX
   obtain ⟨σ_84,rfl,q_86,hn_85⟩:=hX
   try simp [q_86]
   rcases zad hp with ⟨h_87,hp⟩|⟨h_87,hp⟩
   ·try simp at h_87
    cases hp
    simp [Goal,FnEnd,q_86,h_87]
   ·try simp at h_87
    obtain ⟨y_88,h_89,hp⟩:=zab hp
    have c_90:=zqo h_89
    simp at c_90
    obtain ⟨_,h_91,hp⟩:=zab hp
    have b_92:=zav h_91
    try simp at b_92
    cases hp
    simp [Goal,FnEnd,q_86,h_87,c_90,b_92]
theorem pc9:PC Tryz.prog 9 C9:=pc_of (g:=g9) (zah _ g9_s.2.1 ⟨pc30,pc31,pc32,trivial⟩) (ent Tryz.func9) fun x y h=>w9 h

def C71:List AV→Option AV:=specP (X:=TNode × Unit) fun x=>zdl x.1
theorem C71_eq {x_} {y} (h:zdl x_=some y):C71 [av .shr x_]=some (Res.res y):=zaf (x:=(x_,())) h
def g71:Cfg:={ P:=Tryz.prog,take:=[],keep:=[],gho:=[],ctx:=[(77,C77)] }
@[simp] theorem g71_s:type_of% (cfg_s (g:=g71) rfl):=cfg_s rfl
theorem w71 {x_} {y} (hp:zdl x_=some y):∃ m,callo g71 0 71 [av .shr x_] mem0=some (Res.res y,m):=by
 refine st0 [.cell 2 67] Tryz.func71 ?_
 unfold zdl at hp
 obtain ⟨y_1,h_2,hp⟩:=zab hp
 have c_3:=C77_eq h_2
 simp at c_3
 obtain ⟨y_4,h_5,hp⟩:=zab hp
 have c_6:=C77_eq h_5
 simp at c_6
 cases hp
 simp [Tryz.f71,Goal,FnEnd,retR,rsrc,RSrc.val,nodupR,nodup,tupPart,c_3,c_6]
theorem pc71:PC Tryz.prog 71 C71:=pc_of (g:=g71) (zah _ g71_s.2.1 ⟨pc77,trivial⟩) (ent Tryz.func71) fun x y h=>w71 h

def C50:List AV→Option AV:=specP (X:=TStructure × Unit) fun x=>zbo x.1
theorem C50_eq {s} {y} (h:zbo s=some y):C50 [av .shr s]=some (Res.res y):=zaf (x:=(s,())) h
def g50:Cfg:={ P:=Tryz.prog,take:=[(50,18),(50,25)],keep:=[((50,3),{ hd:=[2,3,11,12,13],bx:=[5],ex:=[2,3],rt:=[2] })],gho:=[],ctx:=[(71,C71),(77,C77)] }
@[simp] theorem g50_s:type_of% (cfg_s (g:=g50) rfl):=cfg_s rfl
theorem w50 {s} {y} (hp:zbo s=some y):∃ m,callo g50 0 50 [av .shr s] mem0=some (Res.res y,m):=by
 refine st0 [.cell 2 34] Tryz.func50 ?_
 unfold zbo at hp
 obtain ⟨y_1,h_2,hp⟩:=zab hp
 have c_3:=C77_eq h_2
 simp at c_3
 simp [Tryz.f50,c_3]
 obtain ⟨r_23,h_24,hp⟩:=zab hp
 obtain ⟨I_6,I_6_⟩:=exV fun (s_4:Int × (List TNode)) (σ:St)=>(σ.env 2=uP (1,2)∧σ.env 3=uP (1,3)∧σ.env 11=uL .shr s.nodes∧σ.env 12=uI (s.nodes.length:Int)∧σ.env 13=uI s_4.1∧σ.mem (1,1)=some [cL .shr s.nodes,cL .shr s.next]∧σ.mem (1,2)=some [.l .own 0 [],.l .own 0 []]∧σ.mem (1,3)=some [cL .own s_4.2,cL .own y_1])∧NoBox [(1,1),(1,2),(1,3)] σ.mem
 obtain ⟨X_7,X_7_⟩:=exV fun (r_23:(List TNode)) (out:Out)=>∃ σ:St,out=.exit 0 σ∧(σ.env 2=uP (1,2)∧σ.env 3=uP (1,3)∧σ.mem (1,1)=some [cL .shr s.nodes,cL .shr s.next]∧σ.mem (1,2)=some [.l .own 0 [],.l .own 0 []]∧σ.mem (1,3)=some [cL .own r_23,cL .own y_1])∧NoBox [(1,1),(1,2),(1,3)] σ.mem
 refine loopP ({ hd:=[2,3,11,12,13],bx:=[5],ex:=[2,3],rt:=[2] }) I_6 X_7 h_24 (by exact rfl) ?_ ?_ ?_
 ·rw [I_6_]
  exact ⟨by simp [zac,zaa],NoBox.restrict (by intro k hk hb;simp at hk hb;simp [hk,hb])⟩
 ·intro s_4 σ_8 a_5 hI hp
  rw [I_6_] at hI
  obtain ⟨q_10,hn_9⟩:=hI
  try simp [q_10]
  rcases zad hp with ⟨h_11,hp⟩|⟨h_11,hp⟩
  ·try simp at h_11
   obtain ⟨e_12,h_13,hp⟩:=zab hp
   have b_14:=at_lo h_13
   have b_15:=at_hi h_13
   try simp at b_14 b_15
   have c_16:=seg_at' h_13 0 4 (by decide) (ds:=[.sl e_12.vars.length (encL e_12.vars),.sl e_12.reach.length (encL e_12.reach),.sc (.int .i64 e_12.shared),.sc (.int .i64 e_12.many)]) rfl
   try simp at c_16
   have n_17:=hn_9 (1,5) (by simp)
   obtain ⟨y_18,h_19,hp⟩:=zab hp
   have c_20:=C71_eq h_19
   simp at c_20
   obtain ⟨_,h_21,hp⟩:=zab hp
   have b_22:=zav h_21
   try simp at b_22
   cases hp
   try simp [q_10,h_11,b_14,b_15,c_16,n_17,c_20,b_22]
   refine zag ?_
   rw [I_6_]
   exact ⟨by simp [zac,zaa,q_10,h_11,b_14,b_15,c_16,n_17,c_20,b_22],NoBox.restrict (by intro k hk hb;simp at hk hb;simp [hk,hb,q_10,h_11,b_14,b_15,c_16,n_17,c_20,b_22,hn_9 k (by simp [hk,hb])])⟩
  ·try simp at h_11
   cases hp
   try simp [q_10,h_11]
   refine zak ?_
   rw [X_7_]
   exact ⟨_,rfl,by simp [zac,zaa,q_10,h_11],NoBox.restrict (by intro k hk hb;simp at hk hb;simp [hk,hb,q_10,h_11,hn_9 k (by simp [hk,hb])])⟩
 ·intro out hX
  rw [X_7_] at hX
  obtain ⟨σ_25,rfl,q_27,hn_26⟩:=hX
  cases hp
  simp [Goal,FnEnd,retR,rsrc,RSrc.val,nodupR,nodup,tupPart,q_27]
theorem pc50:PC Tryz.prog 50 C50:=pc_of (g:=g50) (zah _ g50_s.2.1 ⟨pc71,pc77,trivial⟩) (ent Tryz.func50) fun x y h=>w50 h

def C35:List AV→Option AV:=specP (X:=(List TStructure) × Unit) fun x=>zff x.1
theorem C35_eq {set} {y} (h:zff set=some y):C35 [av .shr set]=some (Res.res y):=zaf (x:=(set,())) h
def g35:Cfg:={ P:=Tryz.prog,take:=[(35,13),(35,19)],keep:=[((35,3),{ hd:=[3,7,8,9],bx:=[5],ex:=[3],rt:=[2] })],gho:=[],ctx:=[(50,C50)] }
@[simp] theorem g35_s:type_of% (cfg_s (g:=g35) rfl):=cfg_s rfl
theorem w35 {set} {y} (hp:zff set=some y):∃ m,callo g35 0 35 [av .shr set] mem0=some (Res.res y,m):=by
 refine st0 [.tmp 2] Tryz.func35 ?_
 unfold zff at hp
 simp [Tryz.f35]
 obtain ⟨r_20,h_21,hp⟩:=zab hp
 obtain ⟨I_3,I_3_⟩:=exV fun (s_1:(List TStructure) × Int) (σ:St)=>(σ.env 3=uL .own s_1.1∧σ.env 7=uL .shr set∧σ.env 8=uI (set.length:Int)∧σ.env 9=uI s_1.2)∧NoBox [] σ.mem
 obtain ⟨X_4,X_4_⟩:=exV fun (r_20:(List TStructure)) (out:Out)=>∃ σ:St,out=.exit 0 σ∧σ.env 3=uL .own r_20∧NoBox [] σ.mem
 refine loopP ({ hd:=[3,7,8,9],bx:=[5],ex:=[3],rt:=[2] }) I_3 X_4 h_21 (by exact rfl) ?_ ?_ ?_
 ·rw [I_3_]
  exact ⟨by simp [zac,zaa],NoBox.restrict (by intro k hk hb;simp at hk hb;simp [hk,hb])⟩
 ·intro s_1 σ_5 a_2 hI hp
  rw [I_3_] at hI
  obtain ⟨q_7,hn_6⟩:=hI
  try simp [q_7]
  rcases zad hp with ⟨h_8,hp⟩|⟨h_8,hp⟩
  ·try simp at h_8
   obtain ⟨e_9,h_10,hp⟩:=zab hp
   have b_11:=at_lo h_10
   have b_12:=at_hi h_10
   try simp at b_11 b_12
   have c_13:=seg_at' h_10 0 2 (by decide) (ds:=[.sl e_9.nodes.length (encL e_9.nodes),.sl e_9.next.length (encL e_9.next)]) rfl
   try simp at c_13
   have n_14:=hn_6 (1,5) (by simp)
   obtain ⟨y_15,h_16,hp⟩:=zab hp
   have c_17:=C50_eq h_16
   simp at c_17
   obtain ⟨_,h_18,hp⟩:=zab hp
   have b_19:=zav h_18
   try simp at b_19
   cases hp
   try simp [q_7,h_8,b_11,b_12,c_13,n_14,c_17,b_19]
   refine zag ?_
   rw [I_3_]
   exact ⟨by simp [zac,zaa,q_7,h_8,b_11,b_12,c_13,n_14,c_17,b_19],NoBox.restrict (by intro k hk hb;simp at hk hb;simp [hk,hb,q_7,h_8,b_11,b_12,c_13,n_14,c_17,b_19,hn_6 k (by simp [hk,hb])])⟩
  ·try simp at h_8
   cases hp
   try simp [q_7,h_8]
   refine zak ?_
   rw [X_4_]
   exact ⟨_,rfl,by simp [zac,zaa,q_7,h_8],NoBox.restrict (by intro k hk hb;simp at hk hb;simp [hk,hb,q_7,h_8,hn_6 k (by simp [hk,hb])])⟩
 ·intro out hX
  rw [X_4_] at hX
  obtain ⟨σ_22,rfl,q_24,hn_23⟩:=hX
  cases hp
  simp [Goal,FnEnd,q_24]
theorem pc35:PC Tryz.prog 35 C35:=pc_of (g:=g35) (zah _ g35_s.2.1 ⟨pc50,trivial⟩) (ent Tryz.func35) fun x y h=>w35 h

def C67:List AV→Option AV:=specP (X:=TStructure × Unit) fun x=>zcv x.1
theorem C67_eq {s} {y} (h:zcv s=some y):C67 [av .shr s]=some (Res.res y):=zaf (x:=(s,())) h
def g67:Cfg:={ P:=Tryz.prog,take:=[],keep:=[],gho:=[],ctx:=[] }
@[simp] theorem g67_s:type_of% (cfg_s (g:=g67) rfl):=cfg_s rfl
theorem w67 {s} {y} (hp:zcv s=some y):∃ m,callo g67 0 67 [av .shr s] mem0=some (Res.res y,m):=by
 refine st0 [.tmp 2] Tryz.func67 ?_
 unfold zcv at hp
 simp [Tryz.f67]
 rcases zad hp with ⟨h_1,hp⟩|⟨h_1,hp⟩
 ·try simp at h_1
  cases hp
  simp [Goal,FnEnd,h_1]
 ·try simp at h_1
  obtain ⟨e_2,h_3,hp⟩:=zab hp
  have b_5:=at_hi h_3
  try simp at b_5
  have c_6:=seg_at' h_3 0 1 (by decide) (ds:=[.sl e_2.vars.length (encL e_2.vars)]) rfl
  try simp at c_6
  cases hp
  simp [Goal,FnEnd,h_1,b_5,c_6]
theorem pc67:PC Tryz.prog 67 C67:=pc_of (g:=g67) (zah [] rfl trivial) (ent Tryz.func67) fun x y h=>w67 h

def C88:List AV→Option AV:=specP (X:=Int × Int × Int × Unit) fun x=>zbd x.1 x.2.1 x.2.2.1
theorem zja {n_ low high} {y} (h:zbd n_ low high=some y):C88 [av .shr n_,av .shr low,av .shr high]=some (Res.res y):=zaf (x:=(n_,low,high,())) h
def g88:Cfg:={ P:=Tryz.prog,take:=[],keep:=[],gho:=[],ctx:=[] }
@[simp] theorem g88_s:type_of% (cfg_s (g:=g88) rfl):=cfg_s rfl
theorem w88 {n_ low high} {y} (hp:zbd n_ low high=some y):∃ m,callo g88 0 88 [av .shr n_,av .shr low,av .shr high] mem0=some (Res.res y,m):=by
 refine st0 [.tmp 6] Tryz.func88 ?_
 unfold zbd at hp
 simp [Tryz.f88]
 rcases zad hp with ⟨h_1,hp⟩|⟨h_1,hp⟩
 ·try simp at h_1
  cases hp
  simp [Goal,FnEnd,h_1]
 ·try simp at h_1
  cases hp
  simp [Goal,FnEnd,h_1]
theorem pc88:PC Tryz.prog 88 C88:=pc_of (g:=g88) (zah [] rfl trivial) (ent Tryz.func88) fun x y h=>w88 h

def C92:List AV→Option AV:=specP (X:=Int × Unit) fun x=>zcj x.1
theorem C92_eq {a_} {y} (h:zcj a_=some y):C92 [av .shr a_]=some (Res.res y):=zaf (x:=(a_,())) h
def g92:Cfg:={ P:=Tryz.prog,take:=[],keep:=[],gho:=[],ctx:=[(88,C88)] }
@[simp] theorem g92_s:type_of% (cfg_s (g:=g92) rfl):=cfg_s rfl
theorem w92 {a_} {y} (hp:zcj a_=some y):∃ m,callo g92 0 92 [av .shr a_] mem0=some (Res.res y,m):=by
 refine st0 [.tmp 2] Tryz.func92 ?_
 unfold zcj at hp
 obtain ⟨y_1,h_2,hp⟩:=zab hp
 have c_3:=zja h_2
 simp at c_3
 cases hp
 simp [Tryz.f92,Goal,FnEnd,c_3]
theorem pc92:PC Tryz.prog 92 C92:=pc_of (g:=g92) (zah _ g92_s.2.1 ⟨pc88,trivial⟩) (ent Tryz.func92) fun x y h=>w92 h

def C125:List AV→Option AV:=specP (X:=Int × Unit) fun x=>zdu x.1
def g125:Cfg:={ P:=Tryz.prog,take:=[],keep:=[],gho:=[],ctx:=[(92,C92)] }
@[simp] theorem g125_s:type_of% (cfg_s (g:=g125) rfl):=cfg_s rfl
theorem w125 {a_} {y} (hp:zdu a_=some y):∃ m,callo g125 0 125 [av .shr a_] mem0=some (Res.res y,m):=by
 refine st0 [.tmp 2] Tryz.func125 ?_
 unfold zdu at hp
 obtain ⟨y_1,h_2,hp⟩:=zab hp
 have c_3:=C92_eq h_2
 simp at c_3
 cases hp
 simp [Tryz.f125,Goal,FnEnd,c_3]
theorem pc125:PC Tryz.prog 125 C125:=pc_of (g:=g125) (zah _ g125_s.2.1 ⟨pc92,trivial⟩) (ent Tryz.func125) fun x y h=>w125 h

abbrev G148 (g:Cfg):Prop:=Has Tryz.prog g 148 Tryz.f148 [] [(2,{ hd:=[0,1,7,8],bx:=[],ex:=[],rt:=[4] })] [] []
theorem wI148 {g:Cfg} (G:G148 g) {d:Nat} {mem:Mem} (hT:Tight d mem)  {s:(List Int)} {f_:(Int→Option (Bool))} {m_0:Md} (hm_0:LentM m_0) {fk_f_:Nat} {caps_f_:List (Key × Nat)} (hl_f_:∀ c∈caps_f_,c.1.1≤d) (hc_f_:Clo g d mem fk_f_ caps_f_ fun x:Int × Unit=>f_ x.1) {y} (hp:zef s f_=some y):callo g d 148 [av m_0 s,.one (.fn fk_f_ caps_f_)] mem=some (Res.res y,mem):=by
 have gP:=G.P;have gt:=G.tk;have gr:=G.ro;have gg:=G.gh
 have k_2:=G.kp (2,{ hd:=[0,1,7,8],bx:=[],ex:=[],rt:=[4] }) (by simp)
 have hT2:memKill (fun k=>decide (d < k.1)) mem=mem:=hT
 refine zgr (Tryz.f148.body.getD .skip) [.tmp 4] G Tryz.func148 (by kernel_rfl) (by simp [Tryz.ntmps148]) rfl ?_
 unfold zef at hp
 simp [Tryz.f148,gP,gt,gr,gg,hm_0.copy,hm_0.elem]
 obtain ⟨r_18,h_19,hp⟩:=zab hp
 obtain ⟨I_3,I_3_⟩:=exV fun (s_1:Int) (σ:St)=>(σ.env 0=uL m_0 s∧σ.env 7=uI (s.length:Int)∧σ.env 8=uI s_1)∧σ.env 1=.one (.fn fk_f_ caps_f_)∧σ.mem=mem
 obtain ⟨X_4,X_4_⟩:=exV fun (r_18:(Int) ⊕ (Unit)) (out:Out)=>Sum.elim (fun r_18=>∃ σ:St,out=.ret σ∧σ.env 4=uI r_18∧σ.mem=mem) (fun r_18=>∃ σ:St,out=.exit 0 σ∧σ.mem=mem) r_18
 refine loopP ({ hd:=[0,1,7,8],bx:=[],ex:=[],rt:=[4] }) I_3 X_4 h_19 (by exact k_2) ?_ ?_ ?_
 ·rw [I_3_]
  exact ⟨by simp [zac,zaa,gP,gt,gr,gg,hm_0.copy,hm_0.elem],by simp [zac,gP,gt,gr,gg,hm_0.copy,hm_0.elem] <;> first | (intro x x1 x2 hx;have h0:=hl_f_ _ hx;simp at h0;omega) | (intro x hx;have h0:=hl_f_ _ hx;simp at h0;omega),by simp [zaa,gP,gt,gr,gg,hm_0.copy,hm_0.elem]⟩
 ·intro s_1 σ_5 a_2 hI hp
  rw [I_3_] at hI
  obtain ⟨q_8,q_6,q_7⟩:=hI
  try simp [gP,gt,gr,gg,hm_0.copy,hm_0.elem,q_8,q_6,q_7]
  rcases zad hp with ⟨h_9,hp⟩|⟨h_9,hp⟩
  ·try simp at h_9
   obtain ⟨e_10,h_11,hp⟩:=zab hp
   have b_12:=at_lo h_11
   have b_13:=at_hi h_11
   try simp at b_12 b_13
   have c_14:=seg_at' h_11 0 1 (by decide) (ds:=[.sc (.int .i64 e_10)]) rfl
   try simp at c_14
   obtain ⟨y_15,h_16,hp⟩:=zab hp
   try simp [gP,gt,gr,gg,hm_0.copy,hm_0.elem,q_8,q_6,q_7,h_9,b_12,b_13,c_14]
   refine zfh ([av .shr e_10] ++ capsAV caps_f_) (Res.res y_15) (by simp [capsAV,gP,gt,gr,gg,hm_0.copy,hm_0.elem,q_8,q_6,q_7,h_9]) (hc_f_ _ _ _ (e_10,()) _ (Nat.le_succ d) (fun k hk=>by first | rfl | rw [q_7]) (by repeat (first | exact zeg _ | exact hT.up | exact hT | (simp only [q_8,q_6,q_7];done) | refine Tight.upd ?_ (by simp) (by simp) | refine Tight.killB ?_ | refine zez ?_)) ⟨_,_,(.inl rfl),rfl,rfl⟩ h_16) ?_
   try simp [gP,gt,gr,gg,hm_0.copy,hm_0.elem,q_8,q_6,q_7,h_9]
   rcases zad hp with ⟨h_17,hp⟩|⟨h_17,hp⟩
   ·try simp at h_17
    cases hp
    try simp [gP,gt,gr,gg,hm_0.copy,hm_0.elem,q_8,q_6,q_7,h_9,h_17]
    refine zal ?_
    rw [X_4_]
    exact ⟨_,rfl,by simp [zac,zaa,gP,gt,gr,gg,hm_0.copy,hm_0.elem,q_8,q_6,q_7,h_9,h_17],by simp [zaa,gP,gt,gr,gg,hm_0.copy,hm_0.elem,q_8,q_6,q_7,h_9,h_17]⟩
   ·try simp at h_17
    cases hp
    try simp [gP,gt,gr,gg,hm_0.copy,hm_0.elem,q_8,q_6,q_7,h_9,h_17]
    refine zag ?_
    rw [I_3_]
    exact ⟨by simp [zac,zaa,gP,gt,gr,gg,hm_0.copy,hm_0.elem,q_8,q_6,q_7,h_9,h_17],by simp [zac,gP,gt,gr,gg,hm_0.copy,hm_0.elem,q_8,q_6,q_7,h_9,h_17] <;> first | (intro x x1 x2 hx;have h0:=hl_f_ _ hx;simp at h0;omega) | (intro x hx;have h0:=hl_f_ _ hx;simp at h0;omega),by simp [zaa,gP,gt,gr,gg,hm_0.copy,hm_0.elem,q_8,q_6,q_7,h_9,h_17]⟩
  ·try simp at h_9
   cases hp
   try simp [gP,gt,gr,gg,hm_0.copy,hm_0.elem,q_8,q_6,q_7,h_9]
   refine zak ?_
   rw [X_4_]
   exact ⟨_,rfl,by simp [zaa,gP,gt,gr,gg,hm_0.copy,hm_0.elem,q_8,q_6,q_7,h_9]⟩
 ·intro out hX
  rw [X_4_] at hX
  rcases r_18 with r_18 | r_18
  ·simp only [Sum.elim_inl,Sum.elim_inr] at hX hp
   obtain ⟨σ_20,rfl,q_22,q_21⟩:=hX
   cases hp
   simp [Goal,FnEndI,zbg,gP,gt,gr,gg,hm_0.copy,hm_0.elem,q_22,q_21,hT2]
  ·simp only [Sum.elim_inl,Sum.elim_inr] at hX hp
   obtain ⟨σ_23,rfl,q_24⟩:=hX
   cases hp
   simp [Goal,FnEndI,zbg,gP,gt,gr,gg,hm_0.copy,hm_0.elem,q_24,hT2]
end Go.Proofs

