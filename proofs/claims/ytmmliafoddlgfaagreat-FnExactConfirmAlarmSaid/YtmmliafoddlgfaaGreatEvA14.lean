import Derived.Test.YtmmliafoddlgfaaGreatEvA13
set_option linter.unusedSimpArgs false
set_option linter.unusedVariables false
set_option linter.unnecessarySimpa false
noncomputable section
set_option maxHeartbeats 4000000
set_option maxRecDepth 100000
namespace Go.Proofs
open Go.Ev
def C151:List AV→Option AV:=specP (X:=(List Int) × Int × Unit) fun x=>spec_Positions x.1 x.2.1
theorem C151_eq {list n_} {y} (h:spec_Positions list n_=some y):C151 [av .shr list,av .shr n_]=some (Res.res y):=zai (x:=(list,n_,())) h
def g151:Cfg:={ P:=Tryz.prog,take:=[(151,20),(151,24)],keep:=[((151,3),{ hd:=[0,1,5,6],bx:=[],ex:=[5],rt:=[4] })],gho:=[],ctx:=[] }
@[simp] theorem g151_s:type_of% (cfg_s (g:=g151) rfl):=cfg_s rfl
theorem w151 {list n_} {y} (hp:spec_Positions list n_=some y):∃ m,callo g151 0 151 [av .shr list,av .shr n_] mem0=some (Res.res y,m):=by
 refine st0 [.tmp 4] Tryz.func151 ?_
 unfold spec_Positions at hp
 simp [Tryz.f151]
 obtain ⟨r_17,h_18,hp⟩:=zab hp
 obtain ⟨I_3,I_3_⟩:=exV fun (s_1:(List Int) × Int) (σ:St)=>(σ.env 0=uL .shr list∧σ.env 1=uI n_∧σ.env 5=uL .own s_1.1∧σ.env 6=uI s_1.2)∧σ.mem=mem0
 obtain ⟨X_4,X_4_⟩:=exV fun (r_17:(List Int)) (out:Out)=>∃ σ:St,out=.exit 0 σ∧σ.env 5=uL .own r_17∧σ.mem=mem0
 refine loopP ({ hd:=[0,1,5,6],bx:=[],ex:=[5],rt:=[4] }) I_3 X_4 h_18 (by exact rfl) ?_ ?_ ?_
 ·rw [I_3_]
  exact ⟨by simp [zac,zaa],by simp [zaa]⟩
 ·intro s_1 σ_5 a_2 hI hp
  rw [I_3_] at hI
  obtain ⟨q_7,q_6⟩:=hI
  try simp [q_7,q_6]
  rcases zad hp with ⟨h_8,hp⟩|⟨h_8,hp⟩
  ·try simp at h_8
   obtain ⟨e_9,h_10,hp⟩:=zab hp
   have b_11:=at_lo h_10
   have b_12:=at_hi h_10
   try simp at b_11 b_12
   have c_13:=seg_at' h_10 0 1 (by decide) (ds:=[.sc (.int .i64 e_9)]) rfl
   try simp at c_13
   try simp [q_7,q_6,h_8,b_11,b_12,c_13]
   rcases zad hp with ⟨h_14,hp⟩|⟨h_14,hp⟩
   ·try simp at h_14
    obtain ⟨_,h_15,hp⟩:=zab hp
    have b_16:=room_ok h_15
    try simp at b_16
    cases hp
    try simp [q_7,q_6,h_8,h_14,b_16]
    refine zah ?_
    rw [I_3_]
    exact ⟨by simp [zac,zaa,q_7,q_6,h_8,h_14,b_16],by simp [zaa,q_7,q_6,h_8,h_14,b_16]⟩
   ·try simp at h_14
    cases hp
    try simp [q_7,q_6,h_8,h_14]
    refine zah ?_
    rw [I_3_]
    exact ⟨by simp [zac,zaa,q_7,q_6,h_8,h_14],by simp [zaa,q_7,q_6,h_8,h_14]⟩
  ·try simp at h_8
   cases hp
   try simp [q_7,q_6,h_8]
   refine zal ?_
   rw [X_4_]
   exact ⟨_,rfl,by simp [zac,zaa,q_7,q_6,h_8],by simp [zaa,q_7,q_6,h_8]⟩
 ·intro out hX
  rw [X_4_] at hX
  obtain ⟨σ_19,rfl,q_21,q_20⟩:=hX
  cases hp
  simp [Goal,FnEnd,q_21,q_20]
theorem pc151:PC Tryz.prog 151 C151:=pc_of (g:=g151) (zaj [] rfl trivial) (ent Tryz.func151) fun x y h=>w151 h

def C128:List AV→Option AV:=specP (X:=(List Int) × Int × Unit) fun x=>spec_l7Has x.1 x.2.1
theorem C128_eq {list n_} {y} (h:spec_l7Has list n_=some y):C128 [av .shr list,av .shr n_]=some (Res.res y):=zai (x:=(list,n_,())) h
def g128:Cfg:={ P:=Tryz.prog,take:=[],keep:=[],gho:=[],ctx:=[(151,C151)] }
@[simp] theorem g128_s:type_of% (cfg_s (g:=g128) rfl):=cfg_s rfl
theorem w128 {list n_} {y} (hp:spec_l7Has list n_=some y):∃ m,callo g128 0 128 [av .shr list,av .shr n_] mem0=some (Res.res y,m):=by
 refine st0 [.tmp 4] Tryz.func128 ?_
 unfold spec_l7Has at hp
 obtain ⟨y_1,h_2,hp⟩:=zab hp
 have c_3:=C151_eq h_2
 simp at c_3
 cases hp
 simp [Tryz.f128,Goal,FnEnd,c_3]
theorem pc128:PC Tryz.prog 128 C128:=pc_of (g:=g128) (zaj _ g128_s.2.1 ⟨pc151,trivial⟩) (ent Tryz.func128) fun x y h=>w128 h

def C127:List AV→Option AV:=specP (X:=THeap × Int × Unit) fun x=>spec_Followed x.1 x.2.1
theorem C127_eq {h_ cell} {y} (h:spec_Followed h_ cell=some y):C127 [av .shr h_,av .shr cell]=some (Res.res y):=zai (x:=(h_,cell,())) h
def g127:Cfg:={ P:=Tryz.prog,take:=[(127,23),(127,32)],keep:=[((127,2),{ hd:=[1,2,5],bx:=[],ex:=[5],rt:=[4] })],gho:=[],ctx:=[(49,C49),(128,C128)] }
@[simp] theorem g127_s:type_of% (cfg_s (g:=g127) rfl):=cfg_s rfl
theorem w127 {h_ cell} {y} (hp:spec_Followed h_ cell=some y):∃ m,callo g127 0 127 [av .shr h_,av .shr cell] mem0=some (Res.res y,m):=by
 refine st0 [.tmp 4] Tryz.func127 ?_
 unfold spec_Followed at hp
 simp [Tryz.f127]
 obtain ⟨r_24,h_25,hp⟩:=zab hp
 obtain ⟨I_3,I_3_⟩:=exV fun (s_1:Int × (List Int)) (σ:St)=>(σ.env 1=uI s_1.1∧σ.env 2=uP (1,2)∧σ.env 5=uL .own s_1.2∧σ.mem (1,2)=some [cL .shr h_.vars,cL .shr h_.next])∧NoBox [(1,2)] σ.mem
 obtain ⟨X_4,X_4_⟩:=exV fun (r_24:((List Int)) ⊕ (Unit)) (out:Out)=>Sum.elim (fun r_24=>∃ σ:St,out=.exit 0 σ∧(σ.env 5=uL .own r_24∧σ.mem (1,2)=some [cL .shr h_.vars,cL .shr h_.next])∧NoBox [(1,2)] σ.mem) (fun r_24=>∃ σ:St,out=.ret σ∧(σ.env 4=.one (.l .own 0 [])∧σ.mem (1,2)=some [cL .shr h_.vars,cL .shr h_.next])∧NoBox [(1,2)] σ.mem) r_24
 refine loopP ({ hd:=[1,2,5],bx:=[],ex:=[5],rt:=[4] }) I_3 X_4 h_25 (by exact rfl) ?_ ?_ ?_
 ·rw [I_3_]
  exact ⟨by simp [zac,zaa],NoBox.restrict (by intro k hk hb;simp at hk hb;simp [hk,hb])⟩
 ·intro s_1 σ_5 a_2 hI hp
  rw [I_3_] at hI
  obtain ⟨q_7,hn_6⟩:=hI
  try simp [q_7]
  rcases zad hp with ⟨h_8,hp⟩|⟨h_8,hp⟩
  ·try simp at h_8
   obtain ⟨y_9,h_10,hp⟩:=zab hp
   have c_11:=C128_eq h_10
   simp at c_11
   try simp [q_7,h_8,c_11]
   rcases zad hp with ⟨h_12,hp⟩|⟨h_12,hp⟩
   ·try simp at h_12
    cases hp
    try simp [q_7,h_8,h_12]
    refine zal ?_
    rw [X_4_]
    exact ⟨_,rfl,by simp [zac,zaa,q_7,h_8,h_12],NoBox.restrict (by intro k hk hb;simp at hk hb;simp [hk,hb,q_7,h_8,h_12,hn_6 k (by simp [hk,hb])])⟩
   ·try simp at h_12
    obtain ⟨y_13,h_14,hp⟩:=zab hp
    have c_15:=C49_eq h_14
    simp at c_15
    try simp [q_7,h_8,h_12,c_15]
    rcases zad hp with ⟨h_16,hp⟩|⟨h_16,hp⟩
    ·try simp at h_16
     obtain ⟨_,h_17,hp⟩:=zab hp
     have b_18:=room_ok h_17
     try simp at b_18
     obtain ⟨e_19,h_20,hp⟩:=zab hp
     have b_21:=at_lo h_20
     have b_22:=at_hi h_20
     try simp at b_21 b_22
     have c_23:=seg_at' h_20 0 1 (by decide) (ds:=[.sc (.int .i64 e_19)]) rfl
     try simp at c_23
     cases hp
     try simp [q_7,h_8,h_12,h_16,b_18,b_21,b_22,c_23]
     refine zah ?_
     rw [I_3_]
     exact ⟨by simp [zac,zaa,q_7,h_8,h_12,h_16,b_18,b_21,b_22,c_23],NoBox.restrict (by intro k hk hb;simp at hk hb;simp [hk,hb,q_7,h_8,h_12,h_16,b_18,b_21,b_22,c_23,hn_6 k (by simp [hk,hb])])⟩
    ·try simp at h_16
     cases hp
     try simp [q_7,h_8,h_12,h_16]
     refine zao ?_
     rw [X_4_]
     exact ⟨_,rfl,by simp [zac,zaa,q_7,h_8,h_12,h_16],NoBox.restrict (by intro k hk hb;simp at hk hb;simp [hk,hb,q_7,h_8,h_12,h_16,hn_6 k (by simp [hk,hb])])⟩
  ·try simp at h_8
   cases hp
   try simp [q_7,h_8]
   refine zal ?_
   rw [X_4_]
   exact ⟨_,rfl,by simp [zac,zaa,q_7,h_8],NoBox.restrict (by intro k hk hb;simp at hk hb;simp [hk,hb,q_7,h_8,hn_6 k (by simp [hk,hb])])⟩
 ·intro out hX
  rw [X_4_] at hX
  rcases r_24 with r_24 | r_24
  ·simp only [Sum.elim_inl,Sum.elim_inr] at hX hp
   obtain ⟨σ_26,rfl,q_28,hn_27⟩:=hX
   cases hp
   simp [Goal,FnEnd,q_28]
  ·simp only [Sum.elim_inl,Sum.elim_inr] at hX hp
   obtain ⟨σ_29,rfl,q_31,hn_30⟩:=hX
   cases hp
   simp [Goal,FnEnd,q_31]
theorem pc127:PC Tryz.prog 127 C127:=pc_of (g:=g127) (zaj _ g127_s.2.1 ⟨pc49,pc128,trivial⟩) (ent Tryz.func127) fun x y h=>w127 h

def C79:List AV→Option AV:=specP (X:=THeap × Unit) fun x=>spec_l7Acyclic x.1
theorem C79_eq {h_} {y} (h:spec_l7Acyclic h_=some y):C79 [av .shr h_]=some (Res.res y):=zai (x:=(h_,())) h
def g79:Cfg:={ P:=Tryz.prog,take:=[],keep:=[((79,2),{ hd:=[1,3],bx:=[],ex:=[],rt:=[2] })],gho:=[],ctx:=[(127,C127)] }
@[simp] theorem g79_s:type_of% (cfg_s (g:=g79) rfl):=cfg_s rfl
theorem w79 {h_} {y} (hp:spec_l7Acyclic h_=some y):∃ m,callo g79 0 79 [av .shr h_] mem0=some (Res.res y,m):=by
 refine st0 [.tmp 2] Tryz.func79 ?_
 unfold spec_l7Acyclic at hp
 simp [Tryz.f79]
 obtain ⟨r_24,h_25,hp⟩:=zab hp
 obtain ⟨I_3,I_3_⟩:=exV fun (s_1:Int) (σ:St)=>(σ.env 1=uP (1,1)∧σ.env 3=uI s_1∧σ.mem (1,1)=some [cL .shr h_.vars,cL .shr h_.next])∧NoBox [(1,1)] σ.mem
 obtain ⟨X_4,X_4_⟩:=exV fun (r_24:(Unit) ⊕ (Unit)) (out:Out)=>Sum.elim (fun r_24=>∃ σ:St,out=.ret σ∧(σ.env 2=uB false∧σ.mem (1,1)=some [cL .shr h_.vars,cL .shr h_.next])∧NoBox [(1,1)] σ.mem) (fun r_24=>∃ σ:St,out=.exit 0 σ∧σ.mem (1,1)=some [cL .shr h_.vars,cL .shr h_.next]∧NoBox [(1,1)] σ.mem) r_24
 refine loopP ({ hd:=[1,3],bx:=[],ex:=[],rt:=[2] }) I_3 X_4 h_25 (by exact rfl) ?_ ?_ ?_
 ·rw [I_3_]
  exact ⟨by simp [zac,zaa],NoBox.restrict (by intro k hk hb;simp at hk hb;simp [hk,hb])⟩
 ·intro s_1 σ_5 a_2 hI hp
  rw [I_3_] at hI
  obtain ⟨q_7,hn_6⟩:=hI
  try simp [q_7]
  rcases zad hp with ⟨h_8,hp⟩|⟨h_8,hp⟩
  ·try simp at h_8
   obtain ⟨y_9,h_10,hp⟩:=zab hp
   have c_11:=C127_eq h_10
   simp at c_11
   try simp [q_7,h_8,c_11]
   rcases zad hp with ⟨h_12,hp⟩|⟨h_12,hp⟩
   ·try simp at h_12
    cases hp
    try simp [q_7,h_8,h_12]
    refine zao ?_
    rw [X_4_]
    exact ⟨_,rfl,by simp [zac,zaa,q_7,h_8,h_12],NoBox.restrict (by intro k hk hb;simp at hk hb;simp [hk,hb,q_7,h_8,h_12,hn_6 k (by simp [hk,hb])])⟩
   ·try simp at h_12
    obtain ⟨e_13,h_14,hp⟩:=zab hp
    have b_15:=at_lo h_14
    have b_16:=at_hi h_14
    try simp at b_15 b_16
    have c_17:=seg_at' h_14 0 1 (by decide) (ds:=[.sc (.int .i64 e_13)]) rfl
    try simp at c_17
    obtain ⟨e_18,h_19,hp⟩:=zab hp
    have b_20:=at_lo h_19
    have b_21:=at_hi h_19
    try simp at b_20 b_21
    have c_22:=seg_at' h_19 0 1 (by decide) (ds:=[.sc (.int .i64 e_18)]) rfl
    try simp at c_22
    try simp [q_7,h_8,h_12,b_15,b_16,c_17,b_20,b_21,c_22]
    rcases zad hp with ⟨h_23,hp⟩|⟨h_23,hp⟩
    ·try simp at h_23
     cases hp
     try simp [q_7,h_8,h_12,h_23]
     refine zao ?_
     rw [X_4_]
     exact ⟨_,rfl,by simp [zac,zaa,q_7,h_8,h_12,h_23],NoBox.restrict (by intro k hk hb;simp at hk hb;simp [hk,hb,q_7,h_8,h_12,h_23,hn_6 k (by simp [hk,hb])])⟩
    ·try simp at h_23
     cases hp
     try simp [q_7,h_8,h_12,h_23]
     refine zah ?_
     rw [I_3_]
     exact ⟨by simp [zac,zaa,q_7,h_8,h_12,h_23],NoBox.restrict (by intro k hk hb;simp at hk hb;simp [hk,hb,q_7,h_8,h_12,h_23,hn_6 k (by simp [hk,hb])])⟩
  ·try simp at h_8
   cases hp
   try simp [q_7,h_8]
   refine zal ?_
   rw [X_4_]
   exact ⟨_,rfl,by simp [zac,zaa,q_7,h_8],NoBox.restrict (by intro k hk hb;simp at hk hb;simp [hk,hb,q_7,h_8,hn_6 k (by simp [hk,hb])])⟩
 ·intro out hX
  rw [X_4_] at hX
  rcases r_24 with r_24 | r_24
  ·simp only [Sum.elim_inl,Sum.elim_inr] at hX hp
   obtain ⟨σ_26,rfl,q_28,hn_27⟩:=hX
   cases hp
   simp [Goal,FnEnd,q_28]
  ·simp only [Sum.elim_inl,Sum.elim_inr] at hX hp
   obtain ⟨σ_29,rfl,q_31,hn_30⟩:=hX
   cases hp
   simp [Goal,FnEnd,q_31]
theorem pc79:PC Tryz.prog 79 C79:=pc_of (g:=g79) (zaj _ g79_s.2.1 ⟨pc127,trivial⟩) (ent Tryz.func79) fun x y h=>w79 h

def C80:List AV→Option AV:=specP (X:=THeap × Unit) fun x=>spec_l7Order x.1
theorem C80_eq {h_} {y} (h:spec_l7Order h_=some y):C80 [av .shr h_]=some (Res.res y):=zai (x:=(h_,())) h
def g80:Cfg:={ P:=Tryz.prog,take:=[(80,35),(80,42)],keep:=[((80,3),{ hd:=[1,3,4],bx:=[],ex:=[3],rt:=[2] }),((80,7),{ hd:=[1,3,4,5,6],bx:=[],ex:=[1,3,4],rt:=[2] })],gho:=[],ctx:=[(127,C127),(128,C128)] }
@[simp] theorem g80_s:type_of% (cfg_s (g:=g80) rfl):=cfg_s rfl
theorem w80 {h_} {y} (hp:spec_l7Order h_=some y):∃ m,callo g80 0 80 [av .shr h_] mem0=some (Res.res y,m):=by
 refine st0 [.tmp 2] Tryz.func80 ?_
 unfold spec_l7Order at hp
 simp [Tryz.f80]
 obtain ⟨r_46,h_47,hp⟩:=zab hp
 obtain ⟨I_3,I_3_⟩:=exV fun (s_1:(List Int) × Int) (σ:St)=>(σ.env 1=uP (1,1)∧σ.env 3=uL .own s_1.1∧σ.env 4=uI s_1.2∧σ.mem (1,1)=some [cL .shr h_.vars,cL .shr h_.next])∧NoBox [(1,1)] σ.mem
 obtain ⟨X_4,X_4_⟩:=exV fun (r_46:(List Int)) (out:Out)=>∃ σ:St,out=.exit 0 σ∧(σ.env 3=uL .own r_46∧σ.mem (1,1)=some [cL .shr h_.vars,cL .shr h_.next])∧NoBox [(1,1)] σ.mem
 refine loopP ({ hd:=[1,3,4],bx:=[],ex:=[3],rt:=[2] }) I_3 X_4 h_47 (by exact rfl) ?_ ?_ ?_
 ·rw [I_3_]
  exact ⟨by simp [zac,zaa],NoBox.restrict (by intro k hk hb;simp at hk hb;simp [hk,hb])⟩
 ·intro s_1 σ_5 a_2 hI hp
  rw [I_3_] at hI
  obtain ⟨q_7,hn_6⟩:=hI
  try simp [q_7]
  rcases zad hp with ⟨h_8,hp⟩|⟨h_8,hp⟩
  ·try simp at h_8
   obtain ⟨e_9,h_10,hp⟩:=zab hp
   have b_11:=at_lo h_10
   have b_12:=at_hi h_10
   try simp at b_11 b_12
   have c_13:=seg_at' h_10 0 1 (by decide) (ds:=[.sc (.int .i64 e_9)]) rfl
   try simp at c_13
   obtain ⟨y_14,h_15,hp⟩:=zab hp
   have c_16:=C127_eq h_15
   simp at c_16
   try simp [q_7,h_8,b_11,b_12,c_13,c_16]
   obtain ⟨r_41,h_42,hp⟩:=zab hp
   obtain ⟨I_19,I_19_⟩:=exV fun (s_17:Int × (List Int)) (σ:St)=>(σ.env 1=uP (1,1)∧σ.env 3=uL .own s_17.2∧σ.env 4=uI s_1.2∧σ.env 5=uL .own y_14∧σ.env 6=uI s_17.1∧σ.mem (1,1)=some [cL .shr h_.vars,cL .shr h_.next])∧NoBox [(1,1)] σ.mem
   obtain ⟨X_20,X_20_⟩:=exV fun (r_41:(List Int)) (out:Out)=>∃ σ:St,out=.exit 2 σ∧(σ.env 1=uP (1,1)∧σ.env 3=uL .own r_41∧σ.env 4=uI s_1.2∧σ.mem (1,1)=some [cL .shr h_.vars,cL .shr h_.next])∧NoBox [(1,1)] σ.mem
   refine loopP ({ hd:=[1,3,4,5,6],bx:=[],ex:=[1,3,4],rt:=[2] }) I_19 X_20 h_42 (by exact rfl) ?_ ?_ ?_
   ·rw [I_19_]
    exact ⟨by simp [zac,zaa,q_7,h_8],NoBox.restrict (by intro k hk hb;simp at hk hb;simp [hk,hb,q_7,h_8,hn_6 k (by simp [hk,hb])])⟩
   ·intro s_17 σ_21 a_18 hI hp
    rw [I_19_] at hI
    obtain ⟨q_23,hn_22⟩:=hI
    try simp [h_8,q_23]
    rcases zad hp with ⟨h_24,hp⟩|⟨h_24,hp⟩
    ·try simp at h_24
     obtain ⟨e_25,h_26,hp⟩:=zab hp
     have b_27:=at_lo h_26
     have b_28:=at_hi h_26
     try simp at b_27 b_28
     have c_29:=seg_at' h_26 0 1 (by decide) (ds:=[.sc (.int .i64 e_25)]) rfl
     try simp at c_29
     obtain ⟨y_30,h_31,hp⟩:=zab hp
     have c_32:=C128_eq h_31
     simp at c_32
     try simp [h_8,q_23,h_24,b_27,b_28,c_29,c_32]
     rcases zad hp with ⟨h_33,hp⟩|⟨h_33,hp⟩
     ·try simp at h_33
      cases hp
      try simp [h_8,q_23,h_24,h_33]
      refine zah ?_
      rw [I_19_]
      exact ⟨by simp [zac,zaa,h_8,q_23,h_24,h_33],NoBox.restrict (by intro k hk hb;simp at hk hb;simp [hk,hb,h_8,q_23,h_24,h_33,hn_22 k (by simp [hk,hb])])⟩
     ·try simp at h_33
      obtain ⟨e_34,h_35,hp⟩:=zab hp
      cases Option.some.inj (h_26.symm.trans h_35)
      have b_36:=at_lo h_26
      have b_37:=at_hi h_26
      try simp at b_36 b_37
      have c_38:=seg_at' h_26 0 1 (by decide) (ds:=[.sc (.int .i64 e_25)]) rfl
      try simp at c_38
      obtain ⟨_,h_39,hp⟩:=zab hp
      have b_40:=room_ok h_39
      try simp at b_40
      cases hp
      try simp [h_8,q_23,h_24,h_33,b_36,b_37,c_38,b_40]
      refine zah ?_
      rw [I_19_]
      exact ⟨by simp [zac,zaa,h_8,q_23,h_24,h_33,b_36,b_37,c_38,b_40],NoBox.restrict (by intro k hk hb;simp at hk hb;simp [hk,hb,h_8,q_23,h_24,h_33,b_36,b_37,c_38,b_40,hn_22 k (by simp [hk,hb])])⟩
    ·try simp at h_24
     cases hp
     try simp [h_8,q_23,h_24]
     refine zal ?_
     rw [X_20_]
     exact ⟨_,rfl,by simp [zac,zaa,h_8,q_23,h_24],NoBox.restrict (by intro k hk hb;simp at hk hb;simp [hk,hb,h_8,q_23,h_24,hn_22 k (by simp [hk,hb])])⟩
   ·intro out hX
    rw [X_20_] at hX
    obtain ⟨σ_43,rfl,q_45,hn_44⟩:=hX
    cases hp
    try simp [h_8,q_45]
    refine zah ?_
    rw [I_3_]
    exact ⟨by simp [zac,zaa,h_8,q_45],NoBox.restrict (by intro k hk hb;simp at hk hb;simp [hk,hb,h_8,q_45,hn_44 k (by simp [hk,hb])])⟩
  ·try simp at h_8
   cases hp
   try simp [q_7,h_8]
   refine zal ?_
   rw [X_4_]
   exact ⟨_,rfl,by simp [zac,zaa,q_7,h_8],NoBox.restrict (by intro k hk hb;simp at hk hb;simp [hk,hb,q_7,h_8,hn_6 k (by simp [hk,hb])])⟩
 ·intro out hX
  rw [X_4_] at hX
  obtain ⟨σ_48,rfl,q_50,hn_49⟩:=hX
  cases hp
  simp [Goal,FnEnd,q_50]
theorem pc80:PC Tryz.prog 80 C80:=pc_of (g:=g80) (zaj _ g80_s.2.1 ⟨pc127,pc128,trivial⟩) (ent Tryz.func80) fun x y h=>w80 h

def C47:List AV→Option AV:=specP (X:=Int × THeap × Unit) fun x=>spec_IsHeap x.1 x.2.1
theorem C47_eq {vars h_} {y} (h:spec_IsHeap vars h_=some y):C47 [av .shr vars,av .shr h_]=some (Res.res y):=zai (x:=(vars,h_,())) h
def g47:Cfg:={ P:=Tryz.prog,take:=[],keep:=[((47,5),{ hd:=[3,5,6],bx:=[],ex:=[3,5],rt:=[4] })],gho:=[],ctx:=[(49,C49),(78,C78),(79,C79),(80,C80)] }
@[simp] theorem g47_s:type_of% (cfg_s (g:=g47) rfl):=cfg_s rfl
theorem w47 {vars h_} {y} (hp:spec_IsHeap vars h_=some y):∃ m,callo g47 0 47 [av .shr vars,av .shr h_] mem0=some (Res.res y,m):=by
 refine st0 [.tmp 4] Tryz.func47 ?_
 unfold spec_IsHeap at hp
 obtain ⟨y_1,h_2,hp⟩:=zab hp
 have c_3:=C49_eq h_2
 simp at c_3
 simp [Tryz.f47,c_3]
 rcases zad hp with ⟨h_4,hp⟩|⟨h_4,hp⟩
 ·try simp at h_4
  try simp [h_4]
  rcases zad hp with ⟨h_5,hp⟩|⟨h_5,hp⟩
  ·try simp at h_5
   cases hp
   simp [Goal,FnEnd,h_4,h_5]
  ·try simp at h_5
   try simp [h_4,h_5]
   rcases zad hp with ⟨h_6,hp⟩|⟨h_6,hp⟩
   ·try simp at h_6
    cases hp
    simp [Goal,FnEnd,h_4,h_5,h_6]
   ·try simp at h_6
    obtain ⟨y_7,h_8,hp⟩:=zab hp
    have c_9:=C78_eq h_8
    simp at c_9
    try simp [h_4,h_5,h_6,c_9]
    rcases zad hp with ⟨h_10,hp⟩|⟨h_10,hp⟩
    ·try simp at h_10
     obtain ⟨y_11,h_12,hp⟩:=zab hp
     have c_13:=C79_eq h_12
     simp at c_13
     try simp [h_4,h_5,h_6,h_10,c_13]
     rcases zad hp with ⟨h_14,hp⟩|⟨h_14,hp⟩
     ·try simp at h_14
      obtain ⟨y_15,h_16,hp⟩:=zab hp
      have c_17:=C80_eq h_16
      simp at c_17
      try simp [h_4,h_5,h_6,h_10,h_14,c_17]
      obtain ⟨r_32,h_33,hp⟩:=zab hp
      obtain ⟨I_20,I_20_⟩:=exV fun (s_18:Int) (σ:St)=>(σ.env 3=uP (1,3)∧σ.env 5=uL .own y_15∧σ.env 6=uI s_18∧σ.mem (1,3)=some [cL .shr h_.vars,cL .shr h_.next])∧NoBox [(1,3)] σ.mem
      obtain ⟨X_21,X_21_⟩:=exV fun (r_32:(Unit) ⊕ (Unit)) (out:Out)=>Sum.elim (fun r_32=>∃ σ:St,out=.ret σ∧(σ.env 4=uB false∧σ.mem (1,3)=some [cL .shr h_.vars,cL .shr h_.next])∧NoBox [(1,3)] σ.mem) (fun r_32=>∃ σ:St,out=.exit 0 σ∧(σ.env 3=uP (1,3)∧σ.env 5=uL .own y_15∧σ.mem (1,3)=some [cL .shr h_.vars,cL .shr h_.next])∧NoBox [(1,3)] σ.mem) r_32
      refine loopP ({ hd:=[3,5,6],bx:=[],ex:=[3,5],rt:=[4] }) I_20 X_21 h_33 (by exact rfl) ?_ ?_ ?_
      ·rw [I_20_]
       exact ⟨by simp [zac,zaa,h_4,h_5,h_6,h_10,h_14],NoBox.restrict (by intro k hk hb;simp at hk hb;simp [hk,hb,h_4,h_5,h_6,h_10,h_14])⟩
      ·intro s_18 σ_22 a_19 hI hp
       rw [I_20_] at hI
       obtain ⟨q_24,hn_23⟩:=hI
       try simp [h_4,h_5,h_6,h_10,h_14,q_24]
       rcases zad hp with ⟨h_25,hp⟩|⟨h_25,hp⟩
       ·try simp at h_25
        obtain ⟨e_26,h_27,hp⟩:=zab hp
        have b_28:=at_lo h_27
        have b_29:=at_hi h_27
        try simp at b_28 b_29
        have c_30:=seg_at' h_27 0 1 (by decide) (ds:=[.sc (.int .i64 e_26)]) rfl
        try simp at c_30
        try simp [h_4,h_5,h_6,h_10,h_14,q_24,h_25,b_28,b_29,c_30]
        rcases zad hp with ⟨h_31,hp⟩|⟨h_31,hp⟩
        ·try simp at h_31
         cases hp
         try simp [h_4,h_5,h_6,h_10,h_14,q_24,h_25,h_31]
         refine zao ?_
         rw [X_21_]
         exact ⟨_,rfl,by simp [zac,zaa,h_4,h_5,h_6,h_10,h_14,q_24,h_25,h_31],NoBox.restrict (by intro k hk hb;simp at hk hb;simp [hk,hb,h_4,h_5,h_6,h_10,h_14,q_24,h_25,h_31,hn_23 k (by simp [hk,hb])])⟩
        ·try simp at h_31
         cases hp
         try simp [h_4,h_5,h_6,h_10,h_14,q_24,h_25,h_31]
         refine zah ?_
         rw [I_20_]
         exact ⟨by simp [zac,zaa,h_4,h_5,h_6,h_10,h_14,q_24,h_25,h_31],NoBox.restrict (by intro k hk hb;simp at hk hb;simp [hk,hb,h_4,h_5,h_6,h_10,h_14,q_24,h_25,h_31,hn_23 k (by simp [hk,hb])])⟩
       ·try simp at h_25
        cases hp
        try simp [h_4,h_5,h_6,h_10,h_14,q_24,h_25]
        refine zal ?_
        rw [X_21_]
        exact ⟨_,rfl,by simp [zac,zaa,h_4,h_5,h_6,h_10,h_14,q_24,h_25],NoBox.restrict (by intro k hk hb;simp at hk hb;simp [hk,hb,h_4,h_5,h_6,h_10,h_14,q_24,h_25,hn_23 k (by simp [hk,hb])])⟩
      ·intro out hX
       rw [X_21_] at hX
       rcases r_32 with r_32 | r_32
       ·simp only [Sum.elim_inl,Sum.elim_inr] at hX hp
        obtain ⟨σ_34,rfl,q_36,hn_35⟩:=hX
        cases hp
        simp [Goal,FnEnd,h_4,h_5,h_6,h_10,h_14,q_36]
       ·simp only [Sum.elim_inl,Sum.elim_inr] at hX hp
        obtain ⟨σ_37,rfl,q_39,hn_38⟩:=hX
        cases hp
        simp [Goal,FnEnd,h_4,h_5,h_6,h_10,h_14,q_39]
     ·try simp at h_14
      cases hp
      simp [Goal,FnEnd,h_4,h_5,h_6,h_10,h_14]
    ·try simp at h_10
     cases hp
     simp [Goal,FnEnd,h_4,h_5,h_6,h_10]
 ·try simp at h_4
  cases hp
  simp [Goal,FnEnd,h_4]
theorem pc47:PC Tryz.prog 47 C47:=pc_of (g:=g47) (zaj _ g47_s.2.1 ⟨pc49,pc78,pc79,pc80,trivial⟩) (ent Tryz.func47) fun x y h=>w47 h

def C157:List AV→Option AV:=specP (X:=(List Int) × (List Int) × Unit) fun x=>spec_l7Same x.1 x.2.1
theorem C157_eq {a_ b_} {y} (h:spec_l7Same a_ b_=some y):C157 [av .shr a_,av .shr b_]=some (Res.res y):=zai (x:=(a_,b_,())) h
def g157:Cfg:={ P:=Tryz.prog,take:=[],keep:=[((157,4),{ hd:=[0,1,5],bx:=[],ex:=[],rt:=[4] })],gho:=[],ctx:=[] }
@[simp] theorem g157_s:type_of% (cfg_s (g:=g157) rfl):=cfg_s rfl
theorem w157 {a_ b_} {y} (hp:spec_l7Same a_ b_=some y):∃ m,callo g157 0 157 [av .shr a_,av .shr b_] mem0=some (Res.res y,m):=by
 refine st0 [.tmp 4] Tryz.func157 ?_
 unfold spec_l7Same at hp
 simp [Tryz.f157]
 rcases zad hp with ⟨h_1,hp⟩|⟨h_1,hp⟩
 ·try simp at h_1
  cases hp
  simp [Goal,FnEnd,h_1]
 ·try simp at h_1
  try simp [h_1]
  obtain ⟨r_21,h_22,hp⟩:=zab hp
  obtain ⟨I_4,I_4_⟩:=exV fun (s_2:Int) (σ:St)=>(σ.env 0=uL .shr a_∧σ.env 1=uL .shr b_∧σ.env 5=uI s_2)∧σ.mem=mem0
  obtain ⟨X_5,X_5_⟩:=exV fun (r_21:(Unit) ⊕ (Unit)) (out:Out)=>Sum.elim (fun r_21=>∃ σ:St,out=.ret σ∧σ.env 4=uB false∧σ.mem=mem0) (fun r_21=>∃ σ:St,out=.exit 0 σ∧σ.mem=mem0) r_21
  refine loopP ({ hd:=[0,1,5],bx:=[],ex:=[],rt:=[4] }) I_4 X_5 h_22 (by exact rfl) ?_ ?_ ?_
  ·rw [I_4_]
   exact ⟨by simp [zac,zaa,h_1],by simp [zaa,h_1]⟩
  ·intro s_2 σ_6 a_3 hI hp
   rw [I_4_] at hI
   obtain ⟨q_8,q_7⟩:=hI
   try simp [h_1,q_8,q_7]
   rcases zad hp with ⟨h_9,hp⟩|⟨h_9,hp⟩
   ·try simp at h_9
    obtain ⟨e_10,h_11,hp⟩:=zab hp
    have b_12:=at_lo h_11
    have b_13:=at_hi h_11
    try simp at b_12 b_13
    have c_14:=seg_at' h_11 0 1 (by decide) (ds:=[.sc (.int .i64 e_10)]) rfl
    try simp at c_14
    obtain ⟨e_15,h_16,hp⟩:=zab hp
    have b_17:=at_lo h_16
    have b_18:=at_hi h_16
    try simp at b_17 b_18
    have c_19:=seg_at' h_16 0 1 (by decide) (ds:=[.sc (.int .i64 e_15)]) rfl
    try simp at c_19
    try simp [h_1,q_8,q_7,h_9,b_12,b_13,c_14,b_17,b_18,c_19]
    rcases zad hp with ⟨h_20,hp⟩|⟨h_20,hp⟩
    ·try simp at h_20
     cases hp
     try simp [h_1,q_8,q_7,h_9,h_20]
     refine zao ?_
     rw [X_5_]
     exact ⟨_,rfl,by simp [zac,zaa,h_1,q_8,q_7,h_9,h_20],by simp [zaa,h_1,q_8,q_7,h_9,h_20]⟩
    ·try simp at h_20
     cases hp
     try simp [h_1,q_8,q_7,h_9,h_20]
     refine zah ?_
     rw [I_4_]
     exact ⟨by simp [zac,zaa,h_1,q_8,q_7,h_9,h_20],by simp [zaa,h_1,q_8,q_7,h_9,h_20]⟩
   ·try simp at h_9
    cases hp
    try simp [h_1,q_8,q_7,h_9]
    refine zal ?_
    rw [X_5_]
    exact ⟨_,rfl,by simp [zaa,h_1,q_8,q_7,h_9]⟩
  ·intro out hX
   rw [X_5_] at hX
   rcases r_21 with r_21 | r_21
   ·simp only [Sum.elim_inl,Sum.elim_inr] at hX hp
    obtain ⟨σ_23,rfl,q_25,q_24⟩:=hX
    cases hp
    simp [Goal,FnEnd,h_1,q_25,q_24]
   ·simp only [Sum.elim_inl,Sum.elim_inr] at hX hp
    obtain ⟨σ_26,rfl,q_27⟩:=hX
    cases hp
    simp [Goal,FnEnd,h_1,q_27]
theorem pc157:PC Tryz.prog 157 C157:=pc_of (g:=g157) (zaj [] rfl trivial) (ent Tryz.func157) fun x y h=>w157 h

def C146:List AV→Option AV:=specP (X:=THeap × THeap × Unit) fun x=>spec_EqualHeap x.1 x.2.1
theorem C146_eq {a_ b_} {y} (h:spec_EqualHeap a_ b_=some y):C146 [av .shr a_,av .shr b_]=some (Res.res y):=zai (x:=(a_,b_,())) h
def g146:Cfg:={ P:=Tryz.prog,take:=[],keep:=[],gho:=[],ctx:=[(157,C157)] }
@[simp] theorem g146_s:type_of% (cfg_s (g:=g146) rfl):=cfg_s rfl
theorem w146 {a_ b_} {y} (hp:spec_EqualHeap a_ b_=some y):∃ m,callo g146 0 146 [av .shr a_,av .shr b_] mem0=some (Res.res y,m):=by
 refine st0 [.tmp 4] Tryz.func146 ?_
 unfold spec_EqualHeap at hp
 obtain ⟨y_1,h_2,hp⟩:=zab hp
 have c_3:=C157_eq h_2
 simp at c_3
 simp [Tryz.f146,c_3]
 rcases zad hp with ⟨h_4,hp⟩|⟨h_4,hp⟩
 ·try simp at h_4
  obtain ⟨y_5,h_6,hp⟩:=zab hp
  have c_7:=C157_eq h_6
  simp at c_7
  cases hp
  simp [Goal,FnEnd,h_4,c_7]
 ·try simp at h_4
  cases hp
  simp [Goal,FnEnd,h_4]
theorem pc146:PC Tryz.prog 146 C146:=pc_of (g:=g146) (zaj _ g146_s.2.1 ⟨pc157,trivial⟩) (ent Tryz.func146) fun x y h=>w146 h

def C114:List AV→Option AV:=specP (X:=TState × TState × Unit) fun x=>spec_EqualState x.1 x.2.1
theorem C114_eq {a_ b_} {y} (h:spec_EqualState a_ b_=some y):C114 [av .shr a_,av .shr b_]=some (Res.res y):=zai (x:=(a_,b_,())) h
def g114:Cfg:={ P:=Tryz.prog,take:=[],keep:=[],gho:=[],ctx:=[(146,C146)] }
@[simp] theorem g114_s:type_of% (cfg_s (g:=g114) rfl):=cfg_s rfl
theorem w114 {a_ b_} {y} (hp:spec_EqualState a_ b_=some y):∃ m,callo g114 0 114 [av .shr a_,av .shr b_] mem0=some (Res.res y,m):=by
 refine st0 [.tmp 4] Tryz.func114 ?_
 unfold spec_EqualState at hp
 simp [Tryz.f114]
 rcases zad hp with ⟨h_1,hp⟩|⟨h_1,hp⟩
 ·try simp at h_1
  obtain ⟨y_2,h_3,hp⟩:=zab hp
  have c_4:=C146_eq h_3
  simp at c_4
  cases hp
  simp [Goal,FnEnd,h_1,c_4]
 ·try simp at h_1
  cases hp
  simp [Goal,FnEnd,h_1]
theorem pc114:PC Tryz.prog 114 C114:=pc_of (g:=g114) (zaj _ g114_s.2.1 ⟨pc146,trivial⟩) (ent Tryz.func114) fun x y h=>w114 h

def C48:List AV→Option AV:=specP (X:=THeap × Unit) fun x=>spec_l7Copy x.1
theorem C48_eq {h_} {y} (h:spec_l7Copy h_=some y):C48 [av .shr h_]=some (Res.res y):=zai (x:=(h_,())) h
def g48:Cfg:={ P:=Tryz.prog,take:=[],keep:=[],gho:=[],ctx:=[] }
@[simp] theorem g48_s:type_of% (cfg_s (g:=g48) rfl):=cfg_s rfl
theorem w48 {h_} {y} (hp:spec_l7Copy h_=some y):∃ m,callo g48 0 48 [av .shr h_] mem0=some (Res.res y,m):=by
 refine st0 [.cell 2 31] Tryz.func48 ?_
 unfold spec_l7Copy at hp
 obtain ⟨_,h_1,hp⟩:=zab hp
 have b_2:=room_ok h_1
 try simp at b_2
 obtain ⟨_,h_3,hp⟩:=zab hp
 have b_4:=room_ok h_3
 try simp at b_4
 cases hp
 simp [Tryz.f48,Goal,FnEnd,retR,rsrc,RSrc.val,nodupR,nodup,tupPart,b_2,b_4]
theorem pc48:PC Tryz.prog 48 C48:=pc_of (g:=g48) (zaj [] rfl trivial) (ent Tryz.func48) fun x y h=>w48 h

def C68:List AV→Option AV:=specOM fun x:(List TState) × TState × Unit=>spec_l9Put x.1 x.2.1
theorem C68_eq {list s} {mk_1:Md} (hm_1:mk_1=.own∨mk_1=.shr) {y} (h:spec_l9Put list s=some y):C68 [av .own list,av mk_1 s]=some (Res.res y):=specOM_eq (F:=fun x:(List TState) × TState × Unit=>spec_l9Put x.1 x.2.1) (x:=(list,s,())) hm_1 h
def g68:Cfg:={ P:=Tryz.prog,take:=[(68,18),(68,19)],keep:=[((68,2),{ hd:=[0,3,5],bx:=[],ex:=[0,3],rt:=[4] })],gho:=[],ctx:=[(48,C48),(114,C114)] }
@[simp] theorem g68_s:type_of% (cfg_s (g:=g68) rfl):=cfg_s rfl
theorem w68 {list s} {mk_1:Md} {y} (hp:spec_l9Put list s=some y):∃ m,callo g68 0 68 [av .own list,av mk_1 s] mem0=some (Res.res y,m):=by
 refine st0 [.tmp 4] Tryz.func68 ?_
 unfold spec_l9Put at hp
 simp [Tryz.f68]
 obtain ⟨r_18,h_19,hp⟩:=zab hp
 obtain ⟨I_3,I_3_⟩:=exV fun (s_1:Int) (σ:St)=>(σ.env 0=uL .own list∧σ.env 3=uP (1,3)∧σ.env 5=uI s_1∧σ.mem (1,3)=some [cI s.point,cL mk_1 s.heap.vars,cL mk_1 s.heap.next])∧NoBox [(1,3)] σ.mem
 obtain ⟨X_4,X_4_⟩:=exV fun (r_18:((List TState)) ⊕ (Unit)) (out:Out)=>Sum.elim (fun r_18=>∃ σ:St,out=.ret σ∧(σ.env 4=uL .own r_18∧σ.mem (1,3)=some [cI s.point,cL mk_1 s.heap.vars,cL mk_1 s.heap.next])∧NoBox [(1,3)] σ.mem) (fun r_18=>∃ σ:St,out=.exit 0 σ∧(σ.env 0=uL .own list∧σ.env 3=uP (1,3)∧σ.mem (1,3)=some [cI s.point,cL mk_1 s.heap.vars,cL mk_1 s.heap.next])∧NoBox [(1,3)] σ.mem) r_18
 refine loopP ({ hd:=[0,3,5],bx:=[],ex:=[0,3],rt:=[4] }) I_3 X_4 h_19 (by exact rfl) ?_ ?_ ?_
 ·rw [I_3_]
  exact ⟨by simp [zac,zaa],NoBox.restrict (by intro k hk hb;simp at hk hb;simp [hk,hb])⟩
 ·intro s_1 σ_5 a_2 hI hp
  rw [I_3_] at hI
  obtain ⟨q_7,hn_6⟩:=hI
  try simp [q_7]
  rcases zad hp with ⟨h_8,hp⟩|⟨h_8,hp⟩
  ·try simp at h_8
   obtain ⟨e_9,h_10,hp⟩:=zab hp
   have b_11:=at_lo h_10
   have b_12:=at_hi h_10
   try simp at b_11 b_12
   have c_13:=seg_at' h_10 0 3 (by decide) (ds:=[.sc (.int .i64 e_9.point),.sl e_9.heap.vars.length (encL e_9.heap.vars),.sl e_9.heap.next.length (encL e_9.heap.next)]) rfl
   try simp at c_13
   obtain ⟨y_14,h_15,hp⟩:=zab hp
   have c_16:=C114_eq h_15
   simp at c_16
   try simp [q_7,h_8,b_11,b_12,c_13,c_16]
   rcases zad hp with ⟨h_17,hp⟩|⟨h_17,hp⟩
   ·try simp at h_17
    cases hp
    try simp [q_7,h_8,h_17]
    refine zao ?_
    rw [X_4_]
    exact ⟨_,rfl,by simp [zac,zaa,q_7,h_8,h_17],NoBox.restrict (by intro k hk hb;simp at hk hb;simp [hk,hb,q_7,h_8,h_17,hn_6 k (by simp [hk,hb])])⟩
   ·try simp at h_17
    cases hp
    try simp [q_7,h_8,h_17]
    refine zah ?_
    rw [I_3_]
    exact ⟨by simp [zac,zaa,q_7,h_8,h_17],NoBox.restrict (by intro k hk hb;simp at hk hb;simp [hk,hb,q_7,h_8,h_17,hn_6 k (by simp [hk,hb])])⟩
  ·try simp at h_8
   cases hp
   try simp [q_7,h_8]
   refine zal ?_
   rw [X_4_]
   exact ⟨_,rfl,by simp [zac,zaa,q_7,h_8],NoBox.restrict (by intro k hk hb;simp at hk hb;simp [hk,hb,q_7,h_8,hn_6 k (by simp [hk,hb])])⟩
 ·intro out hX
  rw [X_4_] at hX
  rcases r_18 with r_18 | r_18
  ·simp only [Sum.elim_inl,Sum.elim_inr] at hX hp
   obtain ⟨σ_20,rfl,q_22,hn_21⟩:=hX
   cases hp
   simp [Goal,FnEnd,q_22]
  ·simp only [Sum.elim_inl,Sum.elim_inr] at hX hp
   obtain ⟨σ_23,rfl,q_25,hn_24⟩:=hX
   obtain ⟨y_26,h_27,hp⟩:=zab hp
   have c_28:=C48_eq h_27
   simp at c_28
   obtain ⟨_,h_29,hp⟩:=zab hp
   have b_30:=room_ok h_29
   try simp at b_30
   cases hp
   simp [Goal,FnEnd,q_25,c_28,b_30]
theorem po68:PO Tryz.prog 68 C68:=po_ofM (g:=g68) (zaj _ g68_s.2.1 ⟨pc48,pc114,trivial⟩) rfl fun x y m h=>w68 h

def C63:List AV→Option AV:=specP (X:=TProgram × Int × Unit) fun x=>spec_EdgesFrom x.1 x.2.1
theorem C63_eq {p_ point} {y} (h:spec_EdgesFrom p_ point=some y):C63 [av .shr p_,av .shr point]=some (Res.res y):=zai (x:=(p_,point,())) h
def g63:Cfg:={ P:=Tryz.prog,take:=[(63,23),(63,27)],keep:=[((63,3),{ hd:=[1,2,5,6],bx:=[],ex:=[5],rt:=[4] })],gho:=[],ctx:=[] }
@[simp] theorem g63_s:type_of% (cfg_s (g:=g63) rfl):=cfg_s rfl
theorem w63 {p_ point} {y} (hp:spec_EdgesFrom p_ point=some y):∃ m,callo g63 0 63 [av .shr p_,av .shr point] mem0=some (Res.res y,m):=by
 refine st0 [.tmp 4] Tryz.func63 ?_
 unfold spec_EdgesFrom at hp
 simp [Tryz.f63]
 obtain ⟨r_17,h_18,hp⟩:=zab hp
 obtain ⟨I_3,I_3_⟩:=exV fun (s_1:(List Int) × Int) (σ:St)=>(σ.env 1=uI point∧σ.env 2=uP (1,2)∧σ.env 5=uL .own s_1.1∧σ.env 6=uI s_1.2∧σ.mem (1,2)=some [cL .shr p_.vars,cI p_.points,cL .shr p_.edges])∧NoBox [(1,2)] σ.mem
 obtain ⟨X_4,X_4_⟩:=exV fun (r_17:(List Int)) (out:Out)=>∃ σ:St,out=.exit 0 σ∧(σ.env 5=uL .own r_17∧σ.mem (1,2)=some [cL .shr p_.vars,cI p_.points,cL .shr p_.edges])∧NoBox [(1,2)] σ.mem
 refine loopP ({ hd:=[1,2,5,6],bx:=[],ex:=[5],rt:=[4] }) I_3 X_4 h_18 (by exact rfl) ?_ ?_ ?_
 ·rw [I_3_]
  exact ⟨by simp [zac,zaa],NoBox.restrict (by intro k hk hb;simp at hk hb;simp [hk,hb])⟩
 ·intro s_1 σ_5 a_2 hI hp
  rw [I_3_] at hI
  obtain ⟨q_7,hn_6⟩:=hI
  try simp [q_7]
  rcases zad hp with ⟨h_8,hp⟩|⟨h_8,hp⟩
  ·try simp at h_8
   obtain ⟨e_9,h_10,hp⟩:=zab hp
   have b_11:=at_lo h_10
   have b_12:=at_hi h_10
   try simp at b_11 b_12
   have c_13:=seg_at' h_10 0 1 (by decide) (ds:=[.sc (.int .i64 e_9.from_)]) rfl
   try simp at c_13
   try simp [q_7,h_8,b_11,b_12,c_13]
   rcases zad hp with ⟨h_14,hp⟩|⟨h_14,hp⟩
   ·try simp at h_14
    obtain ⟨_,h_15,hp⟩:=zab hp
    have b_16:=room_ok h_15
    try simp at b_16
    cases hp
    try simp [q_7,h_8,h_14,b_16]
    refine zah ?_
    rw [I_3_]
    exact ⟨by simp [zac,zaa,q_7,h_8,h_14,b_16],NoBox.restrict (by intro k hk hb;simp at hk hb;simp [hk,hb,q_7,h_8,h_14,b_16,hn_6 k (by simp [hk,hb])])⟩
   ·try simp at h_14
    cases hp
    try simp [q_7,h_8,h_14]
    refine zah ?_
    rw [I_3_]
    exact ⟨by simp [zac,zaa,q_7,h_8,h_14],NoBox.restrict (by intro k hk hb;simp at hk hb;simp [hk,hb,q_7,h_8,h_14,hn_6 k (by simp [hk,hb])])⟩
  ·try simp at h_8
   cases hp
   try simp [q_7,h_8]
   refine zal ?_
   rw [X_4_]
   exact ⟨_,rfl,by simp [zac,zaa,q_7,h_8],NoBox.restrict (by intro k hk hb;simp at hk hb;simp [hk,hb,q_7,h_8,hn_6 k (by simp [hk,hb])])⟩
 ·intro out hX
  rw [X_4_] at hX
  obtain ⟨σ_19,rfl,q_21,hn_20⟩:=hX
  cases hp
  simp [Goal,FnEnd,q_21]
theorem pc63:PC Tryz.prog 63 C63:=pc_of (g:=g63) (zaj [] rfl trivial) (ent Tryz.func63) fun x y h=>w63 h

def C81:List AV→Option AV:=specP (X:=Int × Int × Unit) fun x=>spec_l1Max x.1 x.2.1
theorem C81_eq {a_ b_} {y} (h:spec_l1Max a_ b_=some y):C81 [av .shr a_,av .shr b_]=some (Res.res y):=zai (x:=(a_,b_,())) h
def g81:Cfg:={ P:=Tryz.prog,take:=[],keep:=[],gho:=[],ctx:=[] }
@[simp] theorem g81_s:type_of% (cfg_s (g:=g81) rfl):=cfg_s rfl
theorem w81 {a_ b_} {y} (hp:spec_l1Max a_ b_=some y):∃ m,callo g81 0 81 [av .shr a_,av .shr b_] mem0=some (Res.res y,m):=by
 refine st0 [.tmp 4] Tryz.func81 ?_
 unfold spec_l1Max at hp
 simp [Tryz.f81]
 rcases zad hp with ⟨h_1,hp⟩|⟨h_1,hp⟩
 ·try simp at h_1
  cases hp
  simp [Goal,FnEnd,h_1]
 ·try simp at h_1
  cases hp
  simp [Goal,FnEnd,h_1]
theorem pc81:PC Tryz.prog 81 C81:=pc_of (g:=g81) (zaj [] rfl trivial) (ent Tryz.func81) fun x y h=>w81 h

def C83:List AV→Option AV:=specP (X:=TStmt × Unit) fun x=>spec_IsTest x.1
theorem C83_eq {s} {y} (h:spec_IsTest s=some y):C83 [av .shr s]=some (Res.res y):=zai (x:=(s,())) h
def g83:Cfg:={ P:=Tryz.prog,take:=[],keep:=[],gho:=[],ctx:=[(49,C49)] }
@[simp] theorem g83_s:type_of% (cfg_s (g:=g83) rfl):=cfg_s rfl
theorem w83 {s} {y} (hp:spec_IsTest s=some y):∃ m,callo g83 0 83 [av .shr s] mem0=some (Res.res y,m):=by
 refine st0 [.tmp 2] Tryz.func83 ?_
 unfold spec_IsTest at hp
 obtain ⟨y_1,h_2,hp⟩:=zab hp
 have c_3:=C49_eq h_2
 simp at c_3
 cases hp
 simp [Tryz.f83,Goal,FnEnd,c_3]
theorem pc83:PC Tryz.prog 83 C83:=pc_of (g:=g83) (zaj _ g83_s.2.1 ⟨pc49,trivial⟩) (ent Tryz.func83) fun x y h=>w83 h

def C84:List AV→Option AV:=specP (X:=Int × Int × Int × Unit) fun x=>spec_l8Test x.1 x.2.1 x.2.2.1
theorem C84_eq {kind a_ b_} {y} (h:spec_l8Test kind a_ b_=some y):C84 [av .shr kind,av .shr a_,av .shr b_]=some (Res.res y):=zai (x:=(kind,a_,b_,())) h
def g84:Cfg:={ P:=Tryz.prog,take:=[],keep:=[],gho:=[],ctx:=[] }
@[simp] theorem g84_s:type_of% (cfg_s (g:=g84) rfl):=cfg_s rfl
theorem w84 {kind a_ b_} {y} (hp:spec_l8Test kind a_ b_=some y):∃ m,callo g84 0 84 [av .shr kind,av .shr a_,av .shr b_] mem0=some (Res.res y,m):=by
 refine st0 [.tmp 6] Tryz.func84 ?_
 unfold spec_l8Test at hp
 simp [Tryz.f84]
 rcases zad hp with ⟨h_1,hp⟩|⟨h_1,hp⟩
 ·try simp at h_1
  cases hp
  simp [Goal,FnEnd,h_1]
 ·try simp at h_1
  try simp [h_1]
  rcases zad hp with ⟨h_2,hp⟩|⟨h_2,hp⟩
  ·try simp at h_2
   cases hp
   simp [Goal,FnEnd,h_1,h_2]
  ·try simp at h_2
   try simp [h_1,h_2]
   rcases zad hp with ⟨h_3,hp⟩|⟨h_3,hp⟩
   ·try simp at h_3
    cases hp
    simp [Goal,FnEnd,h_1,h_2,h_3]
   ·try simp at h_3
    cases hp
    simp [Goal,FnEnd,h_1,h_2,h_3]
theorem pc84:PC Tryz.prog 84 C84:=pc_of (g:=g84) (zaj [] rfl trivial) (ent Tryz.func84) fun x y h=>w84 h

def C85:List AV→Option AV:=specP (X:=TStmt × THeap × Int × Int × Unit) fun x=>spec_l8Null x.1 x.2.1 x.2.2.1 x.2.2.2.1
theorem C85_eq {s h_ a_ b_} {y} (h:spec_l8Null s h_ a_ b_=some y):C85 [av .shr s,av .shr h_,av .shr a_,av .shr b_]=some (Res.res y):=zai (x:=(s,h_,a_,b_,())) h
def g85:Cfg:={ P:=Tryz.prog,take:=[],keep:=[],gho:=[],ctx:=[] }
@[simp] theorem g85_s:type_of% (cfg_s (g:=g85) rfl):=cfg_s rfl
theorem w85 {s h_ a_ b_} {y} (hp:spec_l8Null s h_ a_ b_=some y):∃ m,callo g85 0 85 [av .shr s,av .shr h_,av .shr a_,av .shr b_] mem0=some (Res.res y,m):=by
 refine st0 [.tmp 8] Tryz.func85 ?_
 unfold spec_l8Null at hp
 simp [Tryz.f85]
 rcases zad hp with ⟨h_1,hp⟩|⟨h_1,hp⟩
 ·try simp at h_1
  obtain ⟨e_2,h_3,hp⟩:=zab hp
  have b_4:=at_lo h_3
  have b_5:=at_hi h_3
  try simp at b_4 b_5
  have c_6:=seg_at' h_3 0 1 (by decide) (ds:=[.sc (.int .i64 e_2)]) rfl
  try simp at c_6
  cases hp
  simp [Goal,FnEnd,h_1,b_4,b_5,c_6]
 ·try simp at h_1
  try simp [h_1]
  rcases zad hp with ⟨h_7,hp⟩|⟨h_7,hp⟩
  ·try simp at h_7
   obtain ⟨e_8,h_9,hp⟩:=zab hp
   have b_10:=at_lo h_9
   have b_11:=at_hi h_9
   try simp at b_10 b_11
   have c_12:=seg_at' h_9 0 1 (by decide) (ds:=[.sc (.int .i64 e_8)]) rfl
   try simp at c_12
   cases hp
   simp [Goal,FnEnd,h_1,h_7,b_10,b_11,c_12]
  ·try simp at h_7
   try simp [h_1,h_7]
   rcases zad hp with ⟨h_13,hp⟩|⟨h_13,hp⟩
   ·try simp at h_13
    obtain ⟨e_14,h_15,hp⟩:=zab hp
    have b_16:=at_lo h_15
    have b_17:=at_hi h_15
    try simp at b_16 b_17
    have c_18:=seg_at' h_15 0 1 (by decide) (ds:=[.sc (.int .i64 e_14)]) rfl
    try simp at c_18
    cases hp
    simp [Goal,FnEnd,h_1,h_7,h_13,b_16,b_17,c_18]
   ·try simp at h_13
    try simp [h_1,h_7,h_13]
    rcases zad hp with ⟨h_19,hp⟩|⟨h_19,hp⟩
    ·try simp at h_19
     obtain ⟨e_20,h_21,hp⟩:=zab hp
     have b_22:=at_lo h_21
     have b_23:=at_hi h_21
     try simp at b_22 b_23
     have c_24:=seg_at' h_21 0 1 (by decide) (ds:=[.sc (.int .i64 e_20)]) rfl
     try simp at c_24
     cases hp
     simp [Goal,FnEnd,h_1,h_7,h_13,h_19,b_22,b_23,c_24]
    ·try simp at h_19
     cases hp
     simp [Goal,FnEnd,h_1,h_7,h_13,h_19]
theorem pc85:PC Tryz.prog 85 C85:=pc_of (g:=g85) (zaj [] rfl trivial) (ent Tryz.func85) fun x y h=>w85 h

def C64:List AV→Option AV:=specP (X:=Bool × Unit) fun x=>spec_l1Bit x.1
theorem C64_eq {on} {y} (h:spec_l1Bit on=some y):C64 [av .shr on]=some (Res.res y):=zai (x:=(on,())) h
def g64:Cfg:={ P:=Tryz.prog,take:=[],keep:=[],gho:=[],ctx:=[] }
@[simp] theorem g64_s:type_of% (cfg_s (g:=g64) rfl):=cfg_s rfl
theorem w64 {on} {y} (hp:spec_l1Bit on=some y):∃ m,callo g64 0 64 [av .shr on] mem0=some (Res.res y,m):=by
 refine st0 [.tmp 2] Tryz.func64 ?_
 unfold spec_l1Bit at hp
 simp [Tryz.f64]
 rcases zad hp with ⟨h_1,hp⟩|⟨h_1,hp⟩
 ·try simp at h_1
  cases hp
  simp [Goal,FnEnd,h_1]
 ·try simp at h_1
  cases hp
  simp [Goal,FnEnd,h_1]
theorem pc64:PC Tryz.prog 64 C64:=pc_of (g:=g64) (zaj [] rfl trivial) (ent Tryz.func64) fun x y h=>w64 h

def C152:List AV→Option AV:=specP (X:=THeap × Int × Unit) fun x=>spec_l8Without x.1 x.2.1
theorem C152_eq {h_ cell} {y} (h:spec_l8Without h_ cell=some y):C152 [av .shr h_,av .shr cell]=some (Res.res y):=zai (x:=(h_,cell,())) h
def g152:Cfg:={ P:=Tryz.prog,take:=[(152,17),(152,46),(152,64)],keep:=[((152,3),{ hd:=[1,2,4,5,6],bx:=[],ex:=[1,2,4,5],rt:=[4] }),((152,7),{ hd:=[1,2,4,5,7],bx:=[],ex:=[4,5],rt:=[4] })],gho:=[],ctx:=[(64,C64)] }
@[simp] theorem g152_s:type_of% (cfg_s (g:=g152) rfl):=cfg_s rfl
theorem w152 {h_ cell} {y} (hp:spec_l8Without h_ cell=some y):∃ m,callo g152 0 152 [av .shr h_,av .shr cell] mem0=some (Res.res y,m):=by
 refine st0 [.cell 4 31] Tryz.func152 ?_
 unfold spec_l8Without at hp
 simp [Tryz.f152]
 obtain ⟨r_24,h_25,hp⟩:=zab hp
 obtain ⟨I_3,I_3_⟩:=exV fun (s_1:Int × (List Int)) (σ:St)=>(σ.env 1=uI cell∧σ.env 2=uP (1,2)∧σ.env 4=uP (1,4)∧σ.env 5=uP (1,5)∧σ.env 6=uI s_1.1∧σ.mem (1,2)=some [cL .shr h_.vars,cL .shr h_.next]∧σ.mem (1,4)=some [.l .own 0 [],.l .own 0 []]∧σ.mem (1,5)=some [cL .own s_1.2,.l .own 0 []])∧NoBox [(1,2),(1,4),(1,5)] σ.mem
 obtain ⟨X_4,X_4_⟩:=exV fun (r_24:(List Int)) (out:Out)=>∃ σ:St,out=.exit 0 σ∧(σ.env 1=uI cell∧σ.env 2=uP (1,2)∧σ.env 4=uP (1,4)∧σ.env 5=uP (1,5)∧σ.mem (1,2)=some [cL .shr h_.vars,cL .shr h_.next]∧σ.mem (1,4)=some [.l .own 0 [],.l .own 0 []]∧σ.mem (1,5)=some [cL .own r_24,.l .own 0 []])∧NoBox [(1,2),(1,4),(1,5)] σ.mem
 refine loopP ({ hd:=[1,2,4,5,6],bx:=[],ex:=[1,2,4,5],rt:=[4] }) I_3 X_4 h_25 (by exact rfl) ?_ ?_ ?_
 ·rw [I_3_]
  exact ⟨by simp [zac,zaa],NoBox.restrict (by intro k hk hb;simp at hk hb;simp [hk,hb])⟩
 ·intro s_1 σ_5 a_2 hI hp
  rw [I_3_] at hI
  obtain ⟨q_7,hn_6⟩:=hI
  try simp [q_7]
  rcases zad hp with ⟨h_8,hp⟩|⟨h_8,hp⟩
  ·try simp at h_8
   obtain ⟨e_9,h_10,hp⟩:=zab hp
   have b_11:=at_lo h_10
   have b_12:=at_hi h_10
   try simp at b_11 b_12
   have c_13:=seg_at' h_10 0 1 (by decide) (ds:=[.sc (.int .i64 e_9)]) rfl
   try simp at c_13
   obtain ⟨e_14,h_15,hp⟩:=zab hp
   cases Option.some.inj (h_10.symm.trans h_15)
   have b_16:=at_lo h_10
   have b_17:=at_hi h_10
   try simp at b_16 b_17
   have c_18:=seg_at' h_10 0 1 (by decide) (ds:=[.sc (.int .i64 e_9)]) rfl
   try simp at c_18
   obtain ⟨y_19,h_20,hp⟩:=zab hp
   have c_21:=C64_eq h_20
   simp at c_21
   obtain ⟨_,h_22,hp⟩:=zab hp
   have b_23:=room_ok h_22
   try simp at b_23
   cases hp
   try simp [q_7,h_8,b_11,b_12,c_13,b_16,b_17,c_18,c_21,b_23]
   refine zah ?_
   rw [I_3_]
   exact ⟨by simp [zac,zaa,q_7,h_8,b_11,b_12,c_13,b_16,b_17,c_18,c_21,b_23],NoBox.restrict (by intro k hk hb;simp at hk hb;simp [hk,hb,q_7,h_8,b_11,b_12,c_13,b_16,b_17,c_18,c_21,b_23,hn_6 k (by simp [hk,hb])])⟩
  ·try simp at h_8
   cases hp
   try simp [q_7,h_8]
   refine zal ?_
   rw [X_4_]
   exact ⟨_,rfl,by simp [zac,zaa,q_7,h_8],NoBox.restrict (by intro k hk hb;simp at hk hb;simp [hk,hb,q_7,h_8,hn_6 k (by simp [hk,hb])])⟩
 ·intro out hX
  rw [X_4_] at hX
  obtain ⟨σ_26,rfl,q_28,hn_27⟩:=hX
  try simp [q_28]
  obtain ⟨r_53,h_54,hp⟩:=zab hp
  obtain ⟨I_31,I_31_⟩:=exV fun (s_29:Int × (List Int)) (σ:St)=>(σ.env 1=uI cell∧σ.env 2=uP (1,2)∧σ.env 4=uP (1,4)∧σ.env 5=uP (1,5)∧σ.env 7=uI s_29.1∧σ.mem (1,2)=some [cL .shr h_.vars,cL .shr h_.next]∧σ.mem (1,4)=some [.l .own 0 [],.l .own 0 []]∧σ.mem (1,5)=some [cL .own r_24,cL .own s_29.2])∧NoBox [(1,2),(1,4),(1,5)] σ.mem
  obtain ⟨X_32,X_32_⟩:=exV fun (r_53:(List Int)) (out:Out)=>∃ σ:St,out=.exit 2 σ∧(σ.env 4=uP (1,4)∧σ.env 5=uP (1,5)∧σ.mem (1,2)=some [cL .shr h_.vars,cL .shr h_.next]∧σ.mem (1,4)=some [.l .own 0 [],.l .own 0 []]∧σ.mem (1,5)=some [cL .own r_24,cL .own r_53])∧NoBox [(1,2),(1,4),(1,5)] σ.mem
  refine loopP ({ hd:=[1,2,4,5,7],bx:=[],ex:=[4,5],rt:=[4] }) I_31 X_32 h_54 (by exact rfl) ?_ ?_ ?_
  ·rw [I_31_]
   exact ⟨by simp [zac,zaa,q_28],NoBox.restrict (by intro k hk hb;simp at hk hb;simp [hk,hb,q_28,hn_27 k (by simp [hk,hb])])⟩
  ·intro s_29 σ_33 a_30 hI hp
   rw [I_31_] at hI
   obtain ⟨q_35,hn_34⟩:=hI
   try simp [q_35]
   rcases zad hp with ⟨h_36,hp⟩|⟨h_36,hp⟩
   ·try simp at h_36
    try simp [q_35,h_36]
    rcases zad hp with ⟨h_37,hp⟩|⟨h_37,hp⟩
    ·try simp at h_37
     obtain ⟨e_38,h_39,hp⟩:=zab hp
     have b_40:=at_lo h_39
     have b_41:=at_hi h_39
     try simp at b_40 b_41
     have c_42:=seg_at' h_39 0 1 (by decide) (ds:=[.sc (.int .i64 e_38)]) rfl
     try simp at c_42
     obtain ⟨e_43,h_44,hp⟩:=zab hp
     cases Option.some.inj (h_39.symm.trans h_44)
     have b_45:=at_lo h_39
     have b_46:=at_hi h_39
     try simp at b_45 b_46
     have c_47:=seg_at' h_39 0 1 (by decide) (ds:=[.sc (.int .i64 e_38)]) rfl
     try simp at c_47
     obtain ⟨y_48,h_49,hp⟩:=zab hp
     have c_50:=C64_eq h_49
     simp at c_50
     obtain ⟨_,h_51,hp⟩:=zab hp
     have b_52:=room_ok h_51
     try simp at b_52
     cases hp
     try simp [q_35,h_36,h_37,b_40,b_41,c_42,b_45,b_46,c_47,c_50,b_52]
     refine zah ?_
     rw [I_31_]
     exact ⟨by simp [zac,zaa,q_35,h_36,h_37,b_40,b_41,c_42,b_45,b_46,c_47,c_50,b_52],NoBox.restrict (by intro k hk hb;simp at hk hb;simp [hk,hb,q_35,h_36,h_37,b_40,b_41,c_42,b_45,b_46,c_47,c_50,b_52,hn_34 k (by simp [hk,hb])])⟩
    ·try simp at h_37
     cases hp
     try simp [q_35,h_36,h_37]
     refine zah ?_
     rw [I_31_]
     exact ⟨by simp [zac,zaa,q_35,h_36,h_37],NoBox.restrict (by intro k hk hb;simp at hk hb;simp [hk,hb,q_35,h_36,h_37,hn_34 k (by simp [hk,hb])])⟩
   ·try simp at h_36
    cases hp
    try simp [q_35,h_36]
    refine zal ?_
    rw [X_32_]
    exact ⟨_,rfl,by simp [zac,zaa,q_35,h_36],NoBox.restrict (by intro k hk hb;simp at hk hb;simp [hk,hb,q_35,h_36,hn_34 k (by simp [hk,hb])])⟩
  ·intro out hX
   rw [X_32_] at hX
   obtain ⟨σ_55,rfl,q_57,hn_56⟩:=hX
   cases hp
   simp [Goal,FnEnd,retR,rsrc,RSrc.val,nodupR,nodup,tupPart,q_57]
theorem pc152:PC Tryz.prog 152 C152:=pc_of (g:=g152) (zaj _ g152_s.2.1 ⟨pc64,trivial⟩) (ent Tryz.func152) fun x y h=>w152 h

def C129:List AV→Option AV:=specO (X:=THeap × Int × Unit) fun x=>spec_l8Free x.1 x.2.1
theorem C129_eq {h_ a_} {y} (h:spec_l8Free h_ a_=some y):C129 [av .own h_,av .own a_]=some (Res.res y):=specO_eq (x:=(h_,a_,())) h
def g129:Cfg:={ P:=Tryz.prog,take:=[],keep:=[],gho:=[((129,4),[.thaw (.at 2 0) 1032 1]),((129,2000004),[.frz (.at 2 0)])],ctx:=[(128,C128),(151,C151),(152,C152)] }
@[simp] theorem g129_s:type_of% (cfg_s (g:=g129) rfl):=cfg_s rfl
theorem w129 {h_ a_} {y} (hp:spec_l8Free h_ a_=some y):∃ m,callo g129 0 129 [av .own h_,av .own a_] mem0=some (Res.res y,m):=by
 refine st0 [.cell 4 31,.tmp 5] Tryz.func129 ?_
 unfold spec_l8Free at hp
 obtain ⟨e_1,h_2,hp⟩:=zab hp
 have b_3:=at_lo h_2
 have b_4:=at_hi h_2
 try simp at b_3 b_4
 have c_5:=seg_at' h_2 0 1 (by decide) (ds:=[.sc (.int .i64 e_1)]) rfl
 try simp at c_5
 obtain ⟨y_6,h_7,hp⟩:=zab hp
 have c_8:=C151_eq h_7
 simp at c_8
 simp [Tryz.f129,b_3,b_4,c_5,c_8]
 rcases zad hp with ⟨h_9,hp⟩|⟨h_9,hp⟩
 ·try simp at h_9
  cases hp
  simp [Goal,FnEnd,retR,rsrc,RSrc.val,nodupR,nodup,tupPart,h_9]
 ·try simp at h_9
  obtain ⟨y_10,h_11,hp⟩:=zab hp
  have c_12:=C128_eq h_11
  simp at c_12
  try simp [h_9,c_12]
  rcases zad hp with ⟨h_13,hp⟩|⟨h_13,hp⟩
  ·try simp at h_13
   cases hp
   simp [Goal,FnEnd,retR,rsrc,RSrc.val,nodupR,nodup,tupPart,h_9,h_13]
  ·try simp at h_13
   try simp [h_9,h_13]
   obtain ⟨e_14,h_15,hp⟩:=zab hp
   cases Option.some.inj (h_2.symm.trans h_15)
   have b_16:=at_lo h_2
   have b_17:=at_hi h_2
   try simp at b_16 b_17
   have c_18:=splice_row h_2 0 (-1) [(cI (-1))] (by simp) rfl
   try simp at c_18
   have l_19:=row_room h_2 0 (m:=1) (by decide)
   try simp at l_19
   obtain ⟨y_20,h_21,hp⟩:=zab hp
   have c_22:=C152_eq h_21
   simp at c_22
   cases hp
   simp [Goal,FnEnd,retR,rsrc,RSrc.val,nodupR,nodup,tupPart,h_9,h_13,b_16,b_17,c_18,l_19,c_22]
theorem po129:PO Tryz.prog 129 C129:=po_of (g:=g129) (zaj _ g129_s.2.1 ⟨pc128,pc151,pc152,trivial⟩) rfl fun x y h=>w129 h

def C86:List AV→Option AV:=specO (X:=TStmt × THeap × Int × Int × Unit) fun x=>spec_l8Do x.1 x.2.1 x.2.2.1 x.2.2.2.1
theorem C86_eq {s h_ a_ b_} {y} (h:spec_l8Do s h_ a_ b_=some y):C86 [av .own s,av .own h_,av .own a_,av .own b_]=some (Res.res y):=specO_eq (x:=(s,h_,a_,b_,())) h
def g86:Cfg:={ P:=Tryz.prog,take:=[(86,30),(86,101),(86,102),(86,107),(86,109)],keep:=[],gho:=[((86,3),[.thaw (.at 5 0) 1080 1]),((86,5),[.thaw (.at 5 0) 1080 1]),((86,8),[.thaw (.at 5 0) 1080 1]),((86,10),[.thaw (.at 5 0) 1080 1]),((86,12),[.thaw (.at 5 1) 1081 1]),((86,16),[.thaw (.at 5 1) 1081 1]),((86,2000003),[.frz (.at 5 0)]),((86,2000005),[.frz (.at 5 0)]),((86,2000008),[.frz (.at 5 0)]),((86,2000010),[.frz (.at 5 0)]),((86,2000012),[.frz (.at 5 1)]),((86,2000016),[.frz (.at 5 1)])],ctx:=[(127,C127),(128,C128)],give:=[(86,104)],octx:=[(129,C129)] }
@[simp] theorem g86_s:type_of% (cfg_s (g:=g86) rfl):=cfg_s rfl
theorem w86 {s h_ a_ b_} {y} (hp:spec_l8Do s h_ a_ b_=some y):∃ m,callo g86 0 86 [av .own s,av .own h_,av .own a_,av .own b_] mem0=some (Res.res y,m):=by
 refine st0 [.cell 8 31,.tmp 9] Tryz.func86 ?_
 unfold spec_l8Do at hp
 simp [Tryz.f86]
 rcases zad hp with ⟨h_1,hp⟩|⟨h_1,hp⟩
 ·try simp at h_1
  try simp [h_1]
  obtain ⟨e_2,h_3,hp⟩:=zab hp
  have b_4:=at_lo h_3
  have b_5:=at_hi h_3
  try simp at b_4 b_5
  have c_6:=splice_row h_3 0 (-1) [(cI (-1))] (by simp) rfl
  try simp at c_6
  have l_7:=row_room h_3 0 (m:=1) (by decide)
  try simp at l_7
  cases hp
  simp [Goal,FnEnd,retR,rsrc,RSrc.val,nodupR,nodup,tupPart,h_1,b_4,b_5,c_6,l_7]
 ·try simp at h_1
  try simp [h_1]
  rcases zad hp with ⟨h_8,hp⟩|⟨h_8,hp⟩
  ·try simp at h_8
   try simp [h_1,h_8]
   obtain ⟨e_9,h_10,hp⟩:=zab hp
   have b_11:=at_lo h_10
   have b_12:=at_hi h_10
   try simp at b_11 b_12
   have c_13:=splice_row h_10 0 (h_.next.length:Int) [(cI (h_.next.length:Int))] (by simp) rfl
   try simp at c_13
   have l_14:=row_room h_10 0 (m:=1) (by decide)
   try simp at l_14
   obtain ⟨_,h_15,hp⟩:=zab hp
   have b_16:=room_ok h_15
   try simp at b_16
   cases hp
   simp [Goal,FnEnd,retR,rsrc,RSrc.val,nodupR,nodup,tupPart,h_1,h_8,b_11,b_12,c_13,l_14,b_16]
  ·try simp at h_8
   try simp [h_1,h_8]
   rcases zad hp with ⟨h_17,hp⟩|⟨h_17,hp⟩
   ·try simp at h_17
    try simp [h_1,h_8,h_17]
    obtain ⟨e_18,h_19,hp⟩:=zab hp
    have b_20:=at_lo h_19
    have b_21:=at_hi h_19
    try simp at b_20 b_21
    have c_22:=seg_row h_19 0 1 (by decide) (ds:=[.sc (.int .i64 e_18)]) rfl
    try simp at c_22
    obtain ⟨e_23,h_24,hp⟩:=zab hp
    have b_25:=at_lo h_24
    have b_26:=at_hi h_24
    try simp at b_25 b_26
    have c_27:=splice_row h_24 0 e_18 [(cI e_18)] (by simp) rfl
    try simp at c_27
    have l_28:=row_room h_24 0 (m:=1) (by decide)
    try simp at l_28
    cases hp
    simp [Goal,FnEnd,retR,rsrc,RSrc.val,nodupR,nodup,tupPart,h_1,h_8,h_17,b_20,b_21,c_22,b_25,b_26,c_27,l_28]
   ·try simp at h_17
    try simp [h_1,h_8,h_17]
    rcases zad hp with ⟨h_29,hp⟩|⟨h_29,hp⟩
    ·try simp at h_29
     try simp [h_1,h_8,h_17,h_29]
     obtain ⟨e_30,h_31,hp⟩:=zab hp
     have b_32:=at_lo h_31
     have b_33:=at_hi h_31
     try simp at b_32 b_33
     have c_34:=seg_row h_31 0 1 (by decide) (ds:=[.sc (.int .i64 e_30)]) rfl
     try simp at c_34
     obtain ⟨e_35,h_36,hp⟩:=zab hp
     have b_37:=at_lo h_36
     have b_38:=at_hi h_36
     try simp at b_37 b_38
     have c_39:=seg_at' h_36 0 1 (by decide) (ds:=[.sc (.int .i64 e_35)]) rfl
     try simp at c_39
     obtain ⟨e_40,h_41,hp⟩:=zab hp
     have b_42:=at_lo h_41
     have b_43:=at_hi h_41
     try simp at b_42 b_43
     have c_44:=splice_row h_41 0 e_35 [(cI e_35)] (by simp) rfl
     try simp at c_44
     have l_45:=row_room h_41 0 (m:=1) (by decide)
     try simp at l_45
     cases hp
     simp [Goal,FnEnd,retR,rsrc,RSrc.val,nodupR,nodup,tupPart,h_1,h_8,h_17,h_29,b_32,b_33,c_34,b_37,b_38,c_39,b_42,b_43,c_44,l_45]
    ·try simp at h_29
     try simp [h_1,h_8,h_17,h_29]
     rcases zad hp with ⟨h_46,hp⟩|⟨h_46,hp⟩
     ·try simp at h_46
      try simp [h_1,h_8,h_17,h_29,h_46]
      obtain ⟨e_47,h_48,hp⟩:=zab hp
      have b_49:=at_lo h_48
      have b_50:=at_hi h_48
      try simp at b_49 b_50
      have c_51:=seg_at' h_48 0 1 (by decide) (ds:=[.sc (.int .i64 e_47)]) rfl
      try simp at c_51
      obtain ⟨e_52,h_53,hp⟩:=zab hp
      have b_54:=at_lo h_53
      have b_55:=at_hi h_53
      try simp at b_54 b_55
      have c_56:=splice_row h_53 0 (-1) [(cI (-1))] (by simp) rfl
      try simp at c_56
      have l_57:=row_room h_53 0 (m:=1) (by decide)
      try simp at l_57
      cases hp
      simp [Goal,FnEnd,retR,rsrc,RSrc.val,nodupR,nodup,tupPart,h_1,h_8,h_17,h_29,h_46,b_49,b_50,c_51,b_54,b_55,c_56,l_57]
     ·try simp at h_46
      try simp [h_1,h_8,h_17,h_29,h_46]
      rcases zad hp with ⟨h_58,hp⟩|⟨h_58,hp⟩
      ·try simp at h_58
       obtain ⟨e_59,h_60,hp⟩:=zab hp
       have b_61:=at_lo h_60
       have b_62:=at_hi h_60
       try simp at b_61 b_62
       have c_63:=seg_at' h_60 0 1 (by decide) (ds:=[.sc (.int .i64 e_59)]) rfl
       try simp at c_63
       obtain ⟨y_64,h_65,hp⟩:=zab hp
       have c_66:=C127_eq h_65
       simp at c_66
       obtain ⟨e_67,h_68,hp⟩:=zab hp
       have b_69:=at_lo h_68
       have b_70:=at_hi h_68
       try simp at b_69 b_70
       have c_71:=seg_at' h_68 0 1 (by decide) (ds:=[.sc (.int .i64 e_67)]) rfl
       try simp at c_71
       obtain ⟨y_72,h_73,hp⟩:=zab hp
       have c_74:=C128_eq h_73
       simp at c_74
       try simp [h_1,h_8,h_17,h_29,h_46,h_58,b_61,b_62,c_63,c_66,b_69,b_70,c_71,c_74]
       rcases zad hp with ⟨h_75,hp⟩|⟨h_75,hp⟩
       ·try simp at h_75
        cases hp
        simp [Goal,FnEnd,retR,rsrc,RSrc.val,nodupR,nodup,tupPart,h_1,h_8,h_17,h_29,h_46,h_58,h_75]
       ·try simp at h_75
        try simp [h_1,h_8,h_17,h_29,h_46,h_58,h_75]
        obtain ⟨e_76,h_77,hp⟩:=zab hp
        cases Option.some.inj (h_68.symm.trans h_77)
        have b_78:=at_lo h_68
        have b_79:=at_hi h_68
        try simp at b_78 b_79
        have c_80:=seg_at' h_68 0 1 (by decide) (ds:=[.sc (.int .i64 e_67)]) rfl
        try simp at c_80
        obtain ⟨e_81,h_82,hp⟩:=zab hp
        cases Option.some.inj (h_60.symm.trans h_82)
        have b_83:=at_lo h_60
        have b_84:=at_hi h_60
        try simp at b_83 b_84
        have c_85:=seg_at' h_60 0 1 (by decide) (ds:=[.sc (.int .i64 e_59)]) rfl
        try simp at c_85
        obtain ⟨e_86,h_87,hp⟩:=zab hp
        have b_88:=at_lo h_87
        have b_89:=at_hi h_87
        try simp at b_88 b_89
        have c_90:=splice_row h_87 0 e_59 [(cI e_59)] (by simp) rfl
        try simp at c_90
        have l_91:=row_room h_87 0 (m:=1) (by decide)
        try simp at l_91
        cases hp
        simp [Goal,FnEnd,retR,rsrc,RSrc.val,nodupR,nodup,tupPart,h_1,h_8,h_17,h_29,h_46,h_58,h_75,b_78,b_79,c_80,b_83,b_84,c_85,b_88,b_89,c_90,l_91]
      ·try simp at h_58
       try simp [h_1,h_8,h_17,h_29,h_46,h_58]
       rcases zad hp with ⟨h_92,hp⟩|⟨h_92,hp⟩
       ·try simp at h_92
        obtain ⟨y_95,h_96,hp⟩:=zab hp
        have c_97:=C129_eq h_96
        simp at c_97
        cases hp
        simp [Goal,FnEnd,retR,rsrc,RSrc.val,nodupR,nodup,tupPart,h_1,h_8,h_17,h_29,h_46,h_58,h_92,c_97]
       ·try simp at h_92
        cases hp
        simp [Goal,FnEnd,retR,rsrc,RSrc.val,nodupR,nodup,tupPart,h_1,h_8,h_17,h_29,h_46,h_58,h_92]
theorem po86:PO Tryz.prog 86 C86:=po_of (g:=g86) (ctxOK_ofO [(127,C127),(128,C128)] rfl ⟨pc127,pc128,trivial⟩ [(129,C129)] rfl ⟨po129,trivial⟩) rfl fun x y h=>w86 h
end Go.Proofs

