import Derived.Test.YtfcfpdcjepobpaaEvA11
set_option linter.unusedSimpArgs false
set_option linter.unusedVariables false
set_option linter.unnecessarySimpa false
noncomputable section
set_option maxHeartbeats 4000000
set_option maxRecDepth 100000
namespace Go.Proofs
open Go.Ev
def C4:List AV→Option AV:=specP (X:=(List U8) × Unit) fun x=>laws_big x.1
theorem C4_eq {code} {y} (h:laws_big code=some y):C4 [av .shr code]=some (Res.res y):=zai (x:=(code,())) h
def g4:Cfg:={ P:=Try.prog,take:=[],keep:=[],gho:=[],ctx:=[] }
@[simp] theorem g4_s:type_of% (cfg_s (g:=g4) rfl):=cfg_s rfl
theorem w4 {code} {y} (hp:laws_big code=some y):∃ m,callo g4 0 4 [av .shr code] mem0=some (Res.res y,m):=by
 refine st0 [.tmp 2] Try.func4 ?_
 unfold laws_big at hp
 cases hp
 simp [Try.f4,Goal,FnEnd]
theorem pc4:PC Try.prog 4 C4:=pc_of (g:=g4) (zah [] rfl trivial) (ent Try.func4) fun x y h=>w4 h

def C17:List AV→Option (List C):=specN (X:=(List U8) × Unit) (T:=TL1Cur) fun x=>zeo x.1
theorem C17_eq {code} {y} (h:zeo code=some y):C17 [av .shr code]=some (bxT y):=specN_eq (X:=(List U8) × Unit) (T:=TL1Cur) (F:=fun x=>zeo x.1) (x:=(code,())) h
def g17:Cfg:={ P:=Try.prog,take:=[],keep:=[((17,3),{ hd:=[0,3,4],bx:=[],ex:=[0,3],rt:=[2] })],gho:=[],ctx:=[] }
@[simp] theorem g17_s:type_of% (cfg_s (g:=g17) rfl):=cfg_s rfl
theorem w17 {code} {y} (hp:zeo code=some y):∃ out σ,evo g17 1 17 (Try.f17.body.getD .skip) { env:=fun t=>(([av .shr code]:List AV)[t]?).getD .dead,mem:=mem0 }=some out∧out.done=some σ∧σ.env 2=.one (.ptr (1,31) 0)∧σ.mem (1,31)=some (bxT y):=by
 refine start_N ?_
 unfold zeo at hp
 simp [Try.f17]
 obtain ⟨r_15,h_16,hp⟩:=zaa hp
 obtain ⟨I_3,I_3_⟩:=exV fun (s_1:Int × Int) (σ:St)=>(σ.env 0=uL .shr code∧σ.env 3=uI s_1.1∧σ.env 4=uI s_1.2)∧NoBox [] σ.mem
 obtain ⟨X_4,X_4_⟩:=exV fun (r_15:Int) (out:Out)=>∃ σ:St,out=.exit 0 σ∧(σ.env 0=uL .shr code∧σ.env 3=uI r_15)∧NoBox [] σ.mem
 refine loopP ({ hd:=[0,3,4],bx:=[],ex:=[0,3],rt:=[2] }) I_3 X_4 h_16 (by exact rfl) ?_ ?_ ?_
 ·rw [I_3_]
  exact ⟨by simp [zac,zab],NoBox.restrict (by intro k hk hb;simp at hk hb;simp [hk,hb])⟩
 ·intro s_1 σ_5 a_2 hI hp
  rw [I_3_] at hI
  obtain ⟨q_7,hn_6⟩:=hI
  try simp [q_7]
  rcases zad hp with ⟨h_8,hp⟩|⟨h_8,hp⟩
  ·try simp at h_8
   try simp [q_7,h_8]
   rcases zad hp with ⟨h_9,hp⟩|⟨h_9,hp⟩
   ·try simp at h_9
    obtain ⟨e_10,h_11,hp⟩:=zaa hp
    have b_12:=at_lo h_11
    have b_13:=at_hi h_11
    try simp at b_12 b_13
    have c_14:=seg_at' h_11 0 1 (by decide) (ds:=[.sc (.int .u8 e_10.v)]) rfl
    try simp at c_14
    cases hp
    try simp [q_7,h_8,h_9,b_12,b_13,c_14,znx Try.underlying5 Try.underlying3]
    refine zae ?_
    rw [I_3_]
    exact ⟨by simp [zac,zab,q_7,h_8,h_9,b_12,b_13,c_14,znx Try.underlying5 Try.underlying3],NoBox.restrict (by intro k hk hb;simp at hk hb;simp [hk,hb,q_7,h_8,h_9,b_12,b_13,c_14,znx Try.underlying5 Try.underlying3,hn_6 k (by simp [hk,hb])])⟩
   ·try simp at h_9
    cases hp
    try simp [q_7,h_8,h_9]
    refine zag ?_
    rw [X_4_]
    exact ⟨_,rfl,by simp [zac,zab,q_7,h_8,h_9],NoBox.restrict (by intro k hk hb;simp at hk hb;simp [hk,hb,q_7,h_8,h_9,hn_6 k (by simp [hk,hb])])⟩
  ·try simp at h_8
   cases hp
   try simp [q_7,h_8]
   refine zag ?_
   rw [X_4_]
   exact ⟨_,rfl,by simp [zac,zab,q_7,h_8],NoBox.restrict (by intro k hk hb;simp at hk hb;simp [hk,hb,q_7,h_8,hn_6 k (by simp [hk,hb])])⟩
 ·intro out hX
  rw [X_4_] at hX
  obtain ⟨σ_17,rfl,q_19,hn_18⟩:=hX
  have n_20:=hn_18 (1,31) (by simp)
  cases hp
  simp [Goal,FnEndN,Out.done,q_19,n_20]
theorem bc17:BC Try.prog 17 C17:=bc_of (g:=g17) (zah [] rfl trivial) Try.func17 (by kernel_rfl) (by kernel_rfl) rfl (fun x=>by show _≤32;simp [Args.args]) fun x y h=>w17 h

def C40:List AV→Option AV:=specP (X:=Int × Int × Int × Unit) fun x=>zaz x.1 x.2.1 x.2.2.1
theorem zgh {x_ lo hi} {y} (h:zaz x_ lo hi=some y):C40 [av .shr x_,av .shr lo,av .shr hi]=some (Res.res y):=zai (x:=(x_,lo,hi,())) h
def g40:Cfg:={ P:=Try.prog,take:=[],keep:=[],gho:=[],ctx:=[] }
@[simp] theorem g40_s:type_of% (cfg_s (g:=g40) rfl):=cfg_s rfl
theorem w40 {x_ lo hi} {y} (hp:zaz x_ lo hi=some y):∃ m,callo g40 0 40 [av .shr x_,av .shr lo,av .shr hi] mem0=some (Res.res y,m):=by
 refine st0 [.tmp 6] Try.func40 ?_
 unfold zaz at hp
 simp [Try.f40]
 rcases zad hp with ⟨h_1,hp⟩|⟨h_1,hp⟩
 ·try simp at h_1
  cases hp
  simp [Goal,FnEnd,h_1]
 ·try simp at h_1
  cases hp
  simp [Goal,FnEnd,h_1]
theorem pc40:PC Try.prog 40 C40:=pc_of (g:=g40) (zah [] rfl trivial) (ent Try.func40) fun x y h=>w40 h

def C67:List AV→Option AV:=specP (X:=THeap × Unit) fun x=>zdq x.1
theorem C67_eq {h_} {y} (h:zdq h_=some y):C67 [av .shr h_]=some (Res.res y):=zai (x:=(h_,())) h
def g67:Cfg:={ P:=Try.prog,take:=[],keep:=[((67,2),{ hd:=[1,3],bx:=[],ex:=[1],rt:=[2] }),((67,7),{ hd:=[1,4],bx:=[],ex:=[],rt:=[2] })],gho:=[],ctx:=[(40,C40)] }
@[simp] theorem g67_s:type_of% (cfg_s (g:=g67) rfl):=cfg_s rfl
theorem w67 {h_} {y} (hp:zdq h_=some y):∃ m,callo g67 0 67 [av .shr h_] mem0=some (Res.res y,m):=by
 refine st0 [.tmp 2] Try.func67 ?_
 unfold zdq at hp
 simp [Try.f67]
 obtain ⟨r_18,h_19,hp⟩:=zaa hp
 obtain ⟨I_3,I_3_⟩:=exV fun (s_1:Int) (σ:St)=>(σ.env 1=uP (1,1)∧σ.env 3=uI s_1∧σ.mem (1,1)=some [cL .shr h_.vars,cL .shr h_.next])∧NoBox [(1,1)] σ.mem
 obtain ⟨X_4,X_4_⟩:=exV fun (r_18:(Unit) ⊕ (Unit)) (out:Out)=>Sum.elim (fun r_18=>∃ σ:St,out=.ret σ∧(σ.env 2=uB false∧σ.mem (1,1)=some [cL .shr h_.vars,cL .shr h_.next])∧NoBox [(1,1)] σ.mem) (fun r_18=>∃ σ:St,out=.exit 0 σ∧(σ.env 1=uP (1,1)∧σ.mem (1,1)=some [cL .shr h_.vars,cL .shr h_.next])∧NoBox [(1,1)] σ.mem) r_18
 refine loopP ({ hd:=[1,3],bx:=[],ex:=[1],rt:=[2] }) I_3 X_4 h_19 (by exact rfl) ?_ ?_ ?_
 ·rw [I_3_]
  exact ⟨by simp [zac,zab],NoBox.restrict (by intro k hk hb;simp at hk hb;simp [hk,hb])⟩
 ·intro s_1 σ_5 a_2 hI hp
  rw [I_3_] at hI
  obtain ⟨q_7,hn_6⟩:=hI
  try simp [q_7]
  rcases zad hp with ⟨h_8,hp⟩|⟨h_8,hp⟩
  ·try simp at h_8
   obtain ⟨e_9,h_10,hp⟩:=zaa hp
   have b_11:=at_lo h_10
   have b_12:=at_hi h_10
   try simp at b_11 b_12
   have c_13:=seg_at' h_10 0 1 (by decide) (ds:=[.sc (.int .i64 e_9)]) rfl
   try simp at c_13
   obtain ⟨y_14,h_15,hp⟩:=zaa hp
   have c_16:=zgh h_15
   simp at c_16
   try simp [q_7,h_8,b_11,b_12,c_13,c_16]
   rcases zad hp with ⟨h_17,hp⟩|⟨h_17,hp⟩
   ·try simp at h_17
    cases hp
    try simp [q_7,h_8,h_17]
    refine zae ?_
    rw [I_3_]
    exact ⟨by simp [zac,zab,q_7,h_8,h_17],NoBox.restrict (by intro k hk hb;simp at hk hb;simp [hk,hb,q_7,h_8,h_17,hn_6 k (by simp [hk,hb])])⟩
   ·try simp at h_17
    cases hp
    try simp [q_7,h_8,h_17]
    refine zaq ?_
    rw [X_4_]
    exact ⟨_,rfl,by simp [zac,zab,q_7,h_8,h_17],NoBox.restrict (by intro k hk hb;simp at hk hb;simp [hk,hb,q_7,h_8,h_17,hn_6 k (by simp [hk,hb])])⟩
  ·try simp at h_8
   cases hp
   try simp [q_7,h_8]
   refine zag ?_
   rw [X_4_]
   exact ⟨_,rfl,by simp [zac,zab,q_7,h_8],NoBox.restrict (by intro k hk hb;simp at hk hb;simp [hk,hb,q_7,h_8,hn_6 k (by simp [hk,hb])])⟩
 ·intro out hX
  rw [X_4_] at hX
  rcases r_18 with r_18 | r_18
  ·simp only [Sum.elim_inl,Sum.elim_inr] at hX hp
   obtain ⟨σ_20,rfl,q_22,hn_21⟩:=hX
   cases hp
   simp [Goal,FnEnd,q_22]
  ·simp only [Sum.elim_inl,Sum.elim_inr] at hX hp
   obtain ⟨σ_23,rfl,q_25,hn_24⟩:=hX
   try simp [q_25]
   obtain ⟨r_43,h_44,hp⟩:=zaa hp
   obtain ⟨I_28,I_28_⟩:=exV fun (s_26:Int) (σ:St)=>(σ.env 1=uP (1,1)∧σ.env 4=uI s_26∧σ.mem (1,1)=some [cL .shr h_.vars,cL .shr h_.next])∧NoBox [(1,1)] σ.mem
   obtain ⟨X_29,X_29_⟩:=exV fun (r_43:(Bool) ⊕ (Unit)) (out:Out)=>Sum.elim (fun r_43=>∃ σ:St,out=.ret σ∧(σ.env 2=uB r_43∧σ.mem (1,1)=some [cL .shr h_.vars,cL .shr h_.next])∧NoBox [(1,1)] σ.mem) (fun r_43=>∃ σ:St,out=.exit 2 σ∧σ.mem (1,1)=some [cL .shr h_.vars,cL .shr h_.next]∧NoBox [(1,1)] σ.mem) r_43
   refine loopP ({ hd:=[1,4],bx:=[],ex:=[],rt:=[2] }) I_28 X_29 h_44 (by exact rfl) ?_ ?_ ?_
   ·rw [I_28_]
    exact ⟨by simp [zac,zab,q_25],NoBox.restrict (by intro k hk hb;simp at hk hb;simp [hk,hb,q_25,hn_24 k (by simp [hk,hb])])⟩
   ·intro s_26 σ_30 a_27 hI hp
    rw [I_28_] at hI
    obtain ⟨q_32,hn_31⟩:=hI
    try simp [q_32]
    rcases zad hp with ⟨h_33,hp⟩|⟨h_33,hp⟩
    ·try simp at h_33
     obtain ⟨e_34,h_35,hp⟩:=zaa hp
     have b_36:=at_lo h_35
     have b_37:=at_hi h_35
     try simp at b_36 b_37
     have c_38:=seg_at' h_35 0 1 (by decide) (ds:=[.sc (.int .i64 e_34)]) rfl
     try simp at c_38
     obtain ⟨y_39,h_40,hp⟩:=zaa hp
     have c_41:=zgh h_40
     simp at c_41
     try simp [q_32,h_33,b_36,b_37,c_38,c_41]
     rcases zad hp with ⟨h_42,hp⟩|⟨h_42,hp⟩
     ·try simp at h_42
      cases hp
      try simp [q_32,h_33,h_42]
      refine zae ?_
      rw [I_28_]
      exact ⟨by simp [zac,zab,q_32,h_33,h_42],NoBox.restrict (by intro k hk hb;simp at hk hb;simp [hk,hb,q_32,h_33,h_42,hn_31 k (by simp [hk,hb])])⟩
     ·try simp at h_42
      cases hp
      try simp [q_32,h_33,h_42]
      refine zaq ?_
      rw [X_29_]
      exact ⟨_,rfl,by simp [zac,zab,q_32,h_33,h_42],NoBox.restrict (by intro k hk hb;simp at hk hb;simp [hk,hb,q_32,h_33,h_42,hn_31 k (by simp [hk,hb])])⟩
    ·try simp at h_33
     cases hp
     try simp [q_32,h_33]
     refine zag ?_
     rw [X_29_]
     exact ⟨_,rfl,by simp [zac,zab,q_32,h_33],NoBox.restrict (by intro k hk hb;simp at hk hb;simp [hk,hb,q_32,h_33,hn_31 k (by simp [hk,hb])])⟩
   ·intro out hX
    rw [X_29_] at hX
    rcases r_43 with r_43 | r_43
    ·simp only [Sum.elim_inl,Sum.elim_inr] at hX hp
     obtain ⟨σ_45,rfl,q_47,hn_46⟩:=hX
     cases hp
     simp [Goal,FnEnd,q_47]
    ·simp only [Sum.elim_inl,Sum.elim_inr] at hX hp
     obtain ⟨σ_48,rfl,q_50,hn_49⟩:=hX
     cases hp
     simp [Goal,FnEnd,q_50]
theorem pc67:PC Try.prog 67 C67:=pc_of (g:=g67) (zah _ g67_s.2.1 ⟨pc40,trivial⟩) (ent Try.func67) fun x y h=>w67 h

def C68:List AV→Option AV:=specP (X:=(List Int) × Int × Unit) fun x=>zcf x.1 x.2.1
theorem C68_eq {list n_} {y} (h:zcf list n_=some y):C68 [av .shr list,av .shr n_]=some (Res.res y):=zai (x:=(list,n_,())) h
def g68:Cfg:={ P:=Try.prog,take:=[(68,20),(68,24)],keep:=[((68,3),{ hd:=[0,1,5,6],bx:=[],ex:=[5],rt:=[4] })],gho:=[],ctx:=[] }
@[simp] theorem g68_s:type_of% (cfg_s (g:=g68) rfl):=cfg_s rfl
theorem w68 {list n_} {y} (hp:zcf list n_=some y):∃ m,callo g68 0 68 [av .shr list,av .shr n_] mem0=some (Res.res y,m):=by
 refine st0 [.tmp 4] Try.func68 ?_
 unfold zcf at hp
 simp [Try.f68]
 obtain ⟨r_17,h_18,hp⟩:=zaa hp
 obtain ⟨I_3,I_3_⟩:=exV fun (s_1:(List Int) × Int) (σ:St)=>(σ.env 0=uL .shr list∧σ.env 1=uI n_∧σ.env 5=uL .own s_1.1∧σ.env 6=uI s_1.2)∧σ.mem=mem0
 obtain ⟨X_4,X_4_⟩:=exV fun (r_17:(List Int)) (out:Out)=>∃ σ:St,out=.exit 0 σ∧σ.env 5=uL .own r_17∧σ.mem=mem0
 refine loopP ({ hd:=[0,1,5,6],bx:=[],ex:=[5],rt:=[4] }) I_3 X_4 h_18 (by exact rfl) ?_ ?_ ?_
 ·rw [I_3_]
  exact ⟨by simp [zac,zab],by simp [zab]⟩
 ·intro s_1 σ_5 a_2 hI hp
  rw [I_3_] at hI
  obtain ⟨q_7,q_6⟩:=hI
  try simp [q_7,q_6]
  rcases zad hp with ⟨h_8,hp⟩|⟨h_8,hp⟩
  ·try simp at h_8
   obtain ⟨e_9,h_10,hp⟩:=zaa hp
   have b_11:=at_lo h_10
   have b_12:=at_hi h_10
   try simp at b_11 b_12
   have c_13:=seg_at' h_10 0 1 (by decide) (ds:=[.sc (.int .i64 e_9)]) rfl
   try simp at c_13
   try simp [q_7,q_6,h_8,b_11,b_12,c_13]
   rcases zad hp with ⟨h_14,hp⟩|⟨h_14,hp⟩
   ·try simp at h_14
    obtain ⟨_,h_15,hp⟩:=zaa hp
    have b_16:=zau h_15
    try simp at b_16
    cases hp
    try simp [q_7,q_6,h_8,h_14,b_16]
    refine zae ?_
    rw [I_3_]
    exact ⟨by simp [zac,zab,q_7,q_6,h_8,h_14,b_16],by simp [zab,q_7,q_6,h_8,h_14,b_16]⟩
   ·try simp at h_14
    cases hp
    try simp [q_7,q_6,h_8,h_14]
    refine zae ?_
    rw [I_3_]
    exact ⟨by simp [zac,zab,q_7,q_6,h_8,h_14],by simp [zab,q_7,q_6,h_8,h_14]⟩
  ·try simp at h_8
   cases hp
   try simp [q_7,q_6,h_8]
   refine zag ?_
   rw [X_4_]
   exact ⟨_,rfl,by simp [zac,zab,q_7,q_6,h_8],by simp [zab,q_7,q_6,h_8]⟩
 ·intro out hX
  rw [X_4_] at hX
  obtain ⟨σ_19,rfl,q_21,q_20⟩:=hX
  cases hp
  simp [Goal,FnEnd,q_21,q_20]
theorem pc68:PC Try.prog 68 C68:=pc_of (g:=g68) (zah [] rfl trivial) (ent Try.func68) fun x y h=>w68 h

def C69:List AV→Option AV:=specP (X:=(List Int) × Int × Unit) fun x=>zbx x.1 x.2.1
theorem C69_eq {list n_} {y} (h:zbx list n_=some y):C69 [av .shr list,av .shr n_]=some (Res.res y):=zai (x:=(list,n_,())) h
def g69:Cfg:={ P:=Try.prog,take:=[],keep:=[],gho:=[],ctx:=[(68,C68)] }
@[simp] theorem g69_s:type_of% (cfg_s (g:=g69) rfl):=cfg_s rfl
theorem w69 {list n_} {y} (hp:zbx list n_=some y):∃ m,callo g69 0 69 [av .shr list,av .shr n_] mem0=some (Res.res y,m):=by
 refine st0 [.tmp 4] Try.func69 ?_
 unfold zbx at hp
 obtain ⟨y_1,h_2,hp⟩:=zaa hp
 have c_3:=C68_eq h_2
 simp at c_3
 cases hp
 simp [Try.f69,Goal,FnEnd,c_3]
theorem pc69:PC Try.prog 69 C69:=pc_of (g:=g69) (zah _ g69_s.2.1 ⟨pc68,trivial⟩) (ent Try.func69) fun x y h=>w69 h

def C70:List AV→Option AV:=specP (X:=THeap × Int × Unit) fun x=>zdd x.1 x.2.1
theorem C70_eq {h_ cell} {y} (h:zdd h_ cell=some y):C70 [av .shr h_,av .shr cell]=some (Res.res y):=zai (x:=(h_,cell,())) h
def g70:Cfg:={ P:=Try.prog,take:=[(70,23),(70,32)],keep:=[((70,2),{ hd:=[1,2,5],bx:=[],ex:=[5],rt:=[4] })],gho:=[],ctx:=[(40,C40),(69,C69)] }
@[simp] theorem g70_s:type_of% (cfg_s (g:=g70) rfl):=cfg_s rfl
theorem w70 {h_ cell} {y} (hp:zdd h_ cell=some y):∃ m,callo g70 0 70 [av .shr h_,av .shr cell] mem0=some (Res.res y,m):=by
 refine st0 [.tmp 4] Try.func70 ?_
 unfold zdd at hp
 simp [Try.f70]
 obtain ⟨r_24,h_25,hp⟩:=zaa hp
 obtain ⟨I_3,I_3_⟩:=exV fun (s_1:Int × (List Int)) (σ:St)=>(σ.env 1=uI s_1.1∧σ.env 2=uP (1,2)∧σ.env 5=uL .own s_1.2∧σ.mem (1,2)=some [cL .shr h_.vars,cL .shr h_.next])∧NoBox [(1,2)] σ.mem
 obtain ⟨X_4,X_4_⟩:=exV fun (r_24:((List Int)) ⊕ (Unit)) (out:Out)=>Sum.elim (fun r_24=>∃ σ:St,out=.exit 0 σ∧(σ.env 5=uL .own r_24∧σ.mem (1,2)=some [cL .shr h_.vars,cL .shr h_.next])∧NoBox [(1,2)] σ.mem) (fun r_24=>∃ σ:St,out=.ret σ∧(σ.env 4=.one (.l .own 0 [])∧σ.mem (1,2)=some [cL .shr h_.vars,cL .shr h_.next])∧NoBox [(1,2)] σ.mem) r_24
 refine loopP ({ hd:=[1,2,5],bx:=[],ex:=[5],rt:=[4] }) I_3 X_4 h_25 (by exact rfl) ?_ ?_ ?_
 ·rw [I_3_]
  exact ⟨by simp [zac,zab],NoBox.restrict (by intro k hk hb;simp at hk hb;simp [hk,hb])⟩
 ·intro s_1 σ_5 a_2 hI hp
  rw [I_3_] at hI
  obtain ⟨q_7,hn_6⟩:=hI
  try simp [q_7]
  rcases zad hp with ⟨h_8,hp⟩|⟨h_8,hp⟩
  ·try simp at h_8
   obtain ⟨y_9,h_10,hp⟩:=zaa hp
   have c_11:=C69_eq h_10
   simp at c_11
   try simp [q_7,h_8,c_11]
   rcases zad hp with ⟨h_12,hp⟩|⟨h_12,hp⟩
   ·try simp at h_12
    cases hp
    try simp [q_7,h_8,h_12]
    refine zag ?_
    rw [X_4_]
    exact ⟨_,rfl,by simp [zac,zab,q_7,h_8,h_12],NoBox.restrict (by intro k hk hb;simp at hk hb;simp [hk,hb,q_7,h_8,h_12,hn_6 k (by simp [hk,hb])])⟩
   ·try simp at h_12
    obtain ⟨y_13,h_14,hp⟩:=zaa hp
    have c_15:=zgh h_14
    simp at c_15
    try simp [q_7,h_8,h_12,c_15]
    rcases zad hp with ⟨h_16,hp⟩|⟨h_16,hp⟩
    ·try simp at h_16
     obtain ⟨_,h_17,hp⟩:=zaa hp
     have b_18:=zau h_17
     try simp at b_18
     obtain ⟨e_19,h_20,hp⟩:=zaa hp
     have b_21:=at_lo h_20
     have b_22:=at_hi h_20
     try simp at b_21 b_22
     have c_23:=seg_at' h_20 0 1 (by decide) (ds:=[.sc (.int .i64 e_19)]) rfl
     try simp at c_23
     cases hp
     try simp [q_7,h_8,h_12,h_16,b_18,b_21,b_22,c_23]
     refine zae ?_
     rw [I_3_]
     exact ⟨by simp [zac,zab,q_7,h_8,h_12,h_16,b_18,b_21,b_22,c_23],NoBox.restrict (by intro k hk hb;simp at hk hb;simp [hk,hb,q_7,h_8,h_12,h_16,b_18,b_21,b_22,c_23,hn_6 k (by simp [hk,hb])])⟩
    ·try simp at h_16
     cases hp
     try simp [q_7,h_8,h_12,h_16]
     refine zaq ?_
     rw [X_4_]
     exact ⟨_,rfl,by simp [zac,zab,q_7,h_8,h_12,h_16],NoBox.restrict (by intro k hk hb;simp at hk hb;simp [hk,hb,q_7,h_8,h_12,h_16,hn_6 k (by simp [hk,hb])])⟩
  ·try simp at h_8
   cases hp
   try simp [q_7,h_8]
   refine zag ?_
   rw [X_4_]
   exact ⟨_,rfl,by simp [zac,zab,q_7,h_8],NoBox.restrict (by intro k hk hb;simp at hk hb;simp [hk,hb,q_7,h_8,hn_6 k (by simp [hk,hb])])⟩
 ·intro out hX
  rw [X_4_] at hX
  rcases r_24 with r_24 | r_24
  ·simp only [Sum.elim_inl,Sum.elim_inr] at hX hp
   obtain ⟨σ_26,rfl,q_28,hn_27⟩:=hX
   cases hp
   simp [Goal,FnEnd,q_28]
  ·simp only [Sum.elim_inl,Sum.elim_inr] at hX hp
   obtain ⟨σ_29,rfl,q_31,hn_30⟩:=hX
   cases hp
   simp [Goal,FnEnd,q_31]
theorem pc70:PC Try.prog 70 C70:=pc_of (g:=g70) (zah _ g70_s.2.1 ⟨pc40,pc69,trivial⟩) (ent Try.func70) fun x y h=>w70 h

def C76:List AV→Option AV:=specP (X:=THeap × Unit) fun x=>zej x.1
theorem C76_eq {h_} {y} (h:zej h_=some y):C76 [av .shr h_]=some (Res.res y):=zai (x:=(h_,())) h
def g76:Cfg:={ P:=Try.prog,take:=[(76,35),(76,42)],keep:=[((76,3),{ hd:=[1,3,4],bx:=[],ex:=[3],rt:=[2] }),((76,7),{ hd:=[1,3,4,5,6],bx:=[],ex:=[1,3,4],rt:=[2] })],gho:=[],ctx:=[(69,C69),(70,C70)] }
@[simp] theorem g76_s:type_of% (cfg_s (g:=g76) rfl):=cfg_s rfl
theorem w76 {h_} {y} (hp:zej h_=some y):∃ m,callo g76 0 76 [av .shr h_] mem0=some (Res.res y,m):=by
 refine st0 [.tmp 2] Try.func76 ?_
 unfold zej at hp
 simp [Try.f76]
 obtain ⟨r_46,h_47,hp⟩:=zaa hp
 obtain ⟨I_3,I_3_⟩:=exV fun (s_1:(List Int) × Int) (σ:St)=>(σ.env 1=uP (1,1)∧σ.env 3=uL .own s_1.1∧σ.env 4=uI s_1.2∧σ.mem (1,1)=some [cL .shr h_.vars,cL .shr h_.next])∧NoBox [(1,1)] σ.mem
 obtain ⟨X_4,X_4_⟩:=exV fun (r_46:(List Int)) (out:Out)=>∃ σ:St,out=.exit 0 σ∧(σ.env 3=uL .own r_46∧σ.mem (1,1)=some [cL .shr h_.vars,cL .shr h_.next])∧NoBox [(1,1)] σ.mem
 refine loopP ({ hd:=[1,3,4],bx:=[],ex:=[3],rt:=[2] }) I_3 X_4 h_47 (by exact rfl) ?_ ?_ ?_
 ·rw [I_3_]
  exact ⟨by simp [zac,zab],NoBox.restrict (by intro k hk hb;simp at hk hb;simp [hk,hb])⟩
 ·intro s_1 σ_5 a_2 hI hp
  rw [I_3_] at hI
  obtain ⟨q_7,hn_6⟩:=hI
  try simp [q_7]
  rcases zad hp with ⟨h_8,hp⟩|⟨h_8,hp⟩
  ·try simp at h_8
   obtain ⟨e_9,h_10,hp⟩:=zaa hp
   have b_11:=at_lo h_10
   have b_12:=at_hi h_10
   try simp at b_11 b_12
   have c_13:=seg_at' h_10 0 1 (by decide) (ds:=[.sc (.int .i64 e_9)]) rfl
   try simp at c_13
   obtain ⟨y_14,h_15,hp⟩:=zaa hp
   have c_16:=C70_eq h_15
   simp at c_16
   try simp [q_7,h_8,b_11,b_12,c_13,c_16]
   obtain ⟨r_41,h_42,hp⟩:=zaa hp
   obtain ⟨I_19,I_19_⟩:=exV fun (s_17:Int × (List Int)) (σ:St)=>(σ.env 1=uP (1,1)∧σ.env 3=uL .own s_17.2∧σ.env 4=uI s_1.2∧σ.env 5=uL .own y_14∧σ.env 6=uI s_17.1∧σ.mem (1,1)=some [cL .shr h_.vars,cL .shr h_.next])∧NoBox [(1,1)] σ.mem
   obtain ⟨X_20,X_20_⟩:=exV fun (r_41:(List Int)) (out:Out)=>∃ σ:St,out=.exit 2 σ∧(σ.env 1=uP (1,1)∧σ.env 3=uL .own r_41∧σ.env 4=uI s_1.2∧σ.mem (1,1)=some [cL .shr h_.vars,cL .shr h_.next])∧NoBox [(1,1)] σ.mem
   refine loopP ({ hd:=[1,3,4,5,6],bx:=[],ex:=[1,3,4],rt:=[2] }) I_19 X_20 h_42 (by exact rfl) ?_ ?_ ?_
   ·rw [I_19_]
    exact ⟨by simp [zac,zab,q_7,h_8],NoBox.restrict (by intro k hk hb;simp at hk hb;simp [hk,hb,q_7,h_8,hn_6 k (by simp [hk,hb])])⟩
   ·intro s_17 σ_21 a_18 hI hp
    rw [I_19_] at hI
    obtain ⟨q_23,hn_22⟩:=hI
    try simp [h_8,q_23]
    rcases zad hp with ⟨h_24,hp⟩|⟨h_24,hp⟩
    ·try simp at h_24
     obtain ⟨e_25,h_26,hp⟩:=zaa hp
     have b_27:=at_lo h_26
     have b_28:=at_hi h_26
     try simp at b_27 b_28
     have c_29:=seg_at' h_26 0 1 (by decide) (ds:=[.sc (.int .i64 e_25)]) rfl
     try simp at c_29
     obtain ⟨y_30,h_31,hp⟩:=zaa hp
     have c_32:=C69_eq h_31
     simp at c_32
     try simp [h_8,q_23,h_24,b_27,b_28,c_29,c_32]
     rcases zad hp with ⟨h_33,hp⟩|⟨h_33,hp⟩
     ·try simp at h_33
      cases hp
      try simp [h_8,q_23,h_24,h_33]
      refine zae ?_
      rw [I_19_]
      exact ⟨by simp [zac,zab,h_8,q_23,h_24,h_33],NoBox.restrict (by intro k hk hb;simp at hk hb;simp [hk,hb,h_8,q_23,h_24,h_33,hn_22 k (by simp [hk,hb])])⟩
     ·try simp at h_33
      obtain ⟨e_34,h_35,hp⟩:=zaa hp
      cases Option.some.inj (h_26.symm.trans h_35)
      have b_36:=at_lo h_26
      have b_37:=at_hi h_26
      try simp at b_36 b_37
      have c_38:=seg_at' h_26 0 1 (by decide) (ds:=[.sc (.int .i64 e_25)]) rfl
      try simp at c_38
      obtain ⟨_,h_39,hp⟩:=zaa hp
      have b_40:=zau h_39
      try simp at b_40
      cases hp
      try simp [h_8,q_23,h_24,h_33,b_36,b_37,c_38,b_40]
      refine zae ?_
      rw [I_19_]
      exact ⟨by simp [zac,zab,h_8,q_23,h_24,h_33,b_36,b_37,c_38,b_40],NoBox.restrict (by intro k hk hb;simp at hk hb;simp [hk,hb,h_8,q_23,h_24,h_33,b_36,b_37,c_38,b_40,hn_22 k (by simp [hk,hb])])⟩
    ·try simp at h_24
     cases hp
     try simp [h_8,q_23,h_24]
     refine zag ?_
     rw [X_20_]
     exact ⟨_,rfl,by simp [zac,zab,h_8,q_23,h_24],NoBox.restrict (by intro k hk hb;simp at hk hb;simp [hk,hb,h_8,q_23,h_24,hn_22 k (by simp [hk,hb])])⟩
   ·intro out hX
    rw [X_20_] at hX
    obtain ⟨σ_43,rfl,q_45,hn_44⟩:=hX
    cases hp
    try simp [h_8,q_45]
    refine zae ?_
    rw [I_3_]
    exact ⟨by simp [zac,zab,h_8,q_45],NoBox.restrict (by intro k hk hb;simp at hk hb;simp [hk,hb,h_8,q_45,hn_44 k (by simp [hk,hb])])⟩
  ·try simp at h_8
   cases hp
   try simp [q_7,h_8]
   refine zag ?_
   rw [X_4_]
   exact ⟨_,rfl,by simp [zac,zab,q_7,h_8],NoBox.restrict (by intro k hk hb;simp at hk hb;simp [hk,hb,q_7,h_8,hn_6 k (by simp [hk,hb])])⟩
 ·intro out hX
  rw [X_4_] at hX
  obtain ⟨σ_48,rfl,q_50,hn_49⟩:=hX
  cases hp
  simp [Goal,FnEnd,q_50]
theorem pc76:PC Try.prog 76 C76:=pc_of (g:=g76) (zah _ g76_s.2.1 ⟨pc69,pc70,trivial⟩) (ent Try.func76) fun x y h=>w76 h

def C77:List AV→Option AV:=specP (X:=(List Int) × Int × Unit) fun x=>zef x.1 x.2.1
theorem C77_eq {order cell} {y} (h:zef order cell=some y):C77 [av .shr order,av .shr cell]=some (Res.res y):=zai (x:=(order,cell,())) h
def g77:Cfg:={ P:=Try.prog,take:=[],keep:=[],gho:=[],ctx:=[(68,C68)] }
@[simp] theorem g77_s:type_of% (cfg_s (g:=g77) rfl):=cfg_s rfl
theorem w77 {order cell} {y} (hp:zef order cell=some y):∃ m,callo g77 0 77 [av .shr order,av .shr cell] mem0=some (Res.res y,m):=by
 refine st0 [.tmp 4] Try.func77 ?_
 unfold zef at hp
 obtain ⟨y_1,h_2,hp⟩:=zaa hp
 have c_3:=C68_eq h_2
 simp at c_3
 simp [Try.f77,c_3]
 rcases zad hp with ⟨h_4,hp⟩|⟨h_4,hp⟩
 ·try simp at h_4
  cases hp
  simp [Goal,FnEnd,h_4]
 ·try simp at h_4
  obtain ⟨e_5,h_6,hp⟩:=zaa hp
  have b_8:=at_hi h_6
  try simp at b_8
  have c_9:=seg_at' h_6 0 1 (by decide) (ds:=[.sc (.int .i64 e_5)]) rfl
  try simp at c_9
  cases hp
  simp [Goal,FnEnd,h_4,b_8,c_9]
theorem pc77:PC Try.prog 77 C77:=pc_of (g:=g77) (zah _ g77_s.2.1 ⟨pc68,trivial⟩) (ent Try.func77) fun x y h=>w77 h

def C63:List AV→Option AV:=specP (X:=THeap × Unit) fun x=>zdj x.1
theorem C63_eq {h_} {y} (h:zdj h_=some y):C63 [av .shr h_]=some (Res.res y):=zai (x:=(h_,())) h
def g63:Cfg:={ P:=Try.prog,take:=[(63,22),(63,40),(63,54)],keep:=[((63,6),{ hd:=[1,2,3,4,5],bx:=[],ex:=[1,2,3,4],rt:=[2] }),((63,10),{ hd:=[1,2,3,4,6],bx:=[],ex:=[2,4],rt:=[2] })],gho:=[],ctx:=[(67,C67),(76,C76),(77,C77)] }
@[simp] theorem g63_s:type_of% (cfg_s (g:=g63) rfl):=cfg_s rfl
theorem w63 {h_} {y} (hp:zdj h_=some y):∃ m,callo g63 0 63 [av .shr h_] mem0=some (Res.res y,m):=by
 refine st0 [.cell 2 36] Try.func63 ?_
 unfold zdj at hp
 obtain ⟨y_1,h_2,hp⟩:=zaa hp
 have c_3:=C67_eq h_2
 simp at c_3
 simp [Try.f63,c_3]
 rcases zad hp with ⟨h_4,hp⟩|⟨h_4,hp⟩
 ·try simp at h_4
  obtain ⟨y_5,h_6,hp⟩:=zaa hp
  have c_7:=C76_eq h_6
  simp at c_7
  try simp [h_4,c_7]
  obtain ⟨r_26,h_27,hp⟩:=zaa hp
  obtain ⟨I_10,I_10_⟩:=exV fun (s_8:Int × (List Int)) (σ:St)=>(σ.env 1=uP (1,1)∧σ.env 2=uP (1,2)∧σ.env 3=uL .own y_5∧σ.env 4=uP (1,4)∧σ.env 5=uI s_8.1∧σ.mem (1,1)=some [cL .shr h_.vars,cL .shr h_.next]∧σ.mem (1,2)=some [.l .own 0 [],.l .own 0 []]∧σ.mem (1,4)=some [cL .own s_8.2,.l .own 0 []])∧NoBox [(1,1),(1,2),(1,4)] σ.mem
  obtain ⟨X_11,X_11_⟩:=exV fun (r_26:(List Int)) (out:Out)=>∃ σ:St,out=.exit 0 σ∧(σ.env 1=uP (1,1)∧σ.env 2=uP (1,2)∧σ.env 3=uL .own y_5∧σ.env 4=uP (1,4)∧σ.mem (1,1)=some [cL .shr h_.vars,cL .shr h_.next]∧σ.mem (1,2)=some [.l .own 0 [],.l .own 0 []]∧σ.mem (1,4)=some [cL .own r_26,.l .own 0 []])∧NoBox [(1,1),(1,2),(1,4)] σ.mem
  refine loopP ({ hd:=[1,2,3,4,5],bx:=[],ex:=[1,2,3,4],rt:=[2] }) I_10 X_11 h_27 (by exact rfl) ?_ ?_ ?_
  ·rw [I_10_]
   exact ⟨by simp [zac,zab,h_4],NoBox.restrict (by intro k hk hb;simp at hk hb;simp [hk,hb,h_4])⟩
  ·intro s_8 σ_12 a_9 hI hp
   rw [I_10_] at hI
   obtain ⟨q_14,hn_13⟩:=hI
   try simp [h_4,q_14]
   rcases zad hp with ⟨h_15,hp⟩|⟨h_15,hp⟩
   ·try simp at h_15
    obtain ⟨e_16,h_17,hp⟩:=zaa hp
    have b_18:=at_lo h_17
    have b_19:=at_hi h_17
    try simp at b_18 b_19
    have c_20:=seg_at' h_17 0 1 (by decide) (ds:=[.sc (.int .i64 e_16)]) rfl
    try simp at c_20
    obtain ⟨y_21,h_22,hp⟩:=zaa hp
    have c_23:=C77_eq h_22
    simp at c_23
    obtain ⟨_,h_24,hp⟩:=zaa hp
    have b_25:=zau h_24
    try simp at b_25
    cases hp
    try simp [h_4,q_14,h_15,b_18,b_19,c_20,c_23,b_25]
    refine zae ?_
    rw [I_10_]
    exact ⟨by simp [zac,zab,h_4,q_14,h_15,b_18,b_19,c_20,c_23,b_25],NoBox.restrict (by intro k hk hb;simp at hk hb;simp [hk,hb,h_4,q_14,h_15,b_18,b_19,c_20,c_23,b_25,hn_13 k (by simp [hk,hb])])⟩
   ·try simp at h_15
    cases hp
    try simp [h_4,q_14,h_15]
    refine zag ?_
    rw [X_11_]
    exact ⟨_,rfl,by simp [zac,zab,h_4,q_14,h_15],NoBox.restrict (by intro k hk hb;simp at hk hb;simp [hk,hb,h_4,q_14,h_15,hn_13 k (by simp [hk,hb])])⟩
  ·intro out hX
   rw [X_11_] at hX
   obtain ⟨σ_28,rfl,q_30,hn_29⟩:=hX
   try simp [h_4,q_30]
   obtain ⟨r_54,h_55,hp⟩:=zaa hp
   obtain ⟨I_33,I_33_⟩:=exV fun (s_31:Int × (List Int)) (σ:St)=>(σ.env 1=uP (1,1)∧σ.env 2=uP (1,2)∧σ.env 3=uL .own y_5∧σ.env 4=uP (1,4)∧σ.env 6=uI s_31.1∧σ.mem (1,1)=some [cL .shr h_.vars,cL .shr h_.next]∧σ.mem (1,2)=some [.l .own 0 [],.l .own 0 []]∧σ.mem (1,4)=some [cL .own r_26,cL .own s_31.2])∧NoBox [(1,1),(1,2),(1,4)] σ.mem
   obtain ⟨X_34,X_34_⟩:=exV fun (r_54:(List Int)) (out:Out)=>∃ σ:St,out=.exit 2 σ∧(σ.env 2=uP (1,2)∧σ.env 4=uP (1,4)∧σ.mem (1,1)=some [cL .shr h_.vars,cL .shr h_.next]∧σ.mem (1,2)=some [.l .own 0 [],.l .own 0 []]∧σ.mem (1,4)=some [cL .own r_26,cL .own r_54])∧NoBox [(1,1),(1,2),(1,4)] σ.mem
   refine loopP ({ hd:=[1,2,3,4,6],bx:=[],ex:=[2,4],rt:=[2] }) I_33 X_34 h_55 (by exact rfl) ?_ ?_ ?_
   ·rw [I_33_]
    exact ⟨by simp [zac,zab,h_4,q_30],NoBox.restrict (by intro k hk hb;simp at hk hb;simp [hk,hb,h_4,q_30,hn_29 k (by simp [hk,hb])])⟩
   ·intro s_31 σ_35 a_32 hI hp
    rw [I_33_] at hI
    obtain ⟨q_37,hn_36⟩:=hI
    try simp [h_4,q_37]
    rcases zad hp with ⟨h_38,hp⟩|⟨h_38,hp⟩
    ·try simp at h_38
     obtain ⟨e_39,h_40,hp⟩:=zaa hp
     have b_41:=at_lo h_40
     have b_42:=at_hi h_40
     try simp at b_41 b_42
     have c_43:=seg_at' h_40 0 1 (by decide) (ds:=[.sc (.int .i64 e_39)]) rfl
     try simp at c_43
     obtain ⟨e_44,h_45,hp⟩:=zaa hp
     have b_46:=at_lo h_45
     have b_47:=at_hi h_45
     try simp at b_46 b_47
     have c_48:=seg_at' h_45 0 1 (by decide) (ds:=[.sc (.int .i64 e_44)]) rfl
     try simp at c_48
     obtain ⟨y_49,h_50,hp⟩:=zaa hp
     have c_51:=C77_eq h_50
     simp at c_51
     obtain ⟨_,h_52,hp⟩:=zaa hp
     have b_53:=zau h_52
     try simp at b_53
     cases hp
     try simp [h_4,q_37,h_38,b_41,b_42,c_43,b_46,b_47,c_48,c_51,b_53]
     refine zae ?_
     rw [I_33_]
     exact ⟨by simp [zac,zab,h_4,q_37,h_38,b_41,b_42,c_43,b_46,b_47,c_48,c_51,b_53],NoBox.restrict (by intro k hk hb;simp at hk hb;simp [hk,hb,h_4,q_37,h_38,b_41,b_42,c_43,b_46,b_47,c_48,c_51,b_53,hn_36 k (by simp [hk,hb])])⟩
    ·try simp at h_38
     cases hp
     try simp [h_4,q_37,h_38]
     refine zag ?_
     rw [X_34_]
     exact ⟨_,rfl,by simp [zac,zab,h_4,q_37,h_38],NoBox.restrict (by intro k hk hb;simp at hk hb;simp [hk,hb,h_4,q_37,h_38,hn_36 k (by simp [hk,hb])])⟩
   ·intro out hX
    rw [X_34_] at hX
    obtain ⟨σ_56,rfl,q_58,hn_57⟩:=hX
    cases hp
    simp [Goal,FnEnd,retR,rsrc,RSrc.val,nodupR,nodup,tupPart,h_4,q_58]
 ·try simp at h_4
  cases hp
  simp [Goal,FnEnd,retR,rsrc,RSrc.val,nodupR,nodup,tupPart,h_4]
theorem pc63:PC Try.prog 63 C63:=pc_of (g:=g63) (zah _ g63_s.2.1 ⟨pc67,pc76,pc77,trivial⟩) (ent Try.func63) fun x y h=>w63 h

def C60:List AV→Option AV:=specP (X:=Bool × Unit) fun x=>zek x.1
theorem C60_eq {on} {y} (h:zek on=some y):C60 [av .shr on]=some (Res.res y):=zai (x:=(on,())) h
def g60:Cfg:={ P:=Try.prog,take:=[],keep:=[],gho:=[],ctx:=[] }
@[simp] theorem g60_s:type_of% (cfg_s (g:=g60) rfl):=cfg_s rfl
theorem w60 {on} {y} (hp:zek on=some y):∃ m,callo g60 0 60 [av .shr on] mem0=some (Res.res y,m):=by
 refine st0 [.tmp 2] Try.func60 ?_
 unfold zek at hp
 simp [Try.f60]
 rcases zad hp with ⟨h_1,hp⟩|⟨h_1,hp⟩
 ·try simp at h_1
  cases hp
  simp [Goal,FnEnd,h_1]
 ·try simp at h_1
  cases hp
  simp [Goal,FnEnd,h_1]
theorem pc60:PC Try.prog 60 C60:=pc_of (g:=g60) (zah [] rfl trivial) (ent Try.func60) fun x y h=>w60 h

def C44:List AV→Option AV:=specP (X:=THeap × Unit) fun x=>zbm x.1
theorem C44_eq {h_} {y} (h:zbm h_=some y):C44 [av .shr h_]=some (Res.res y):=zai (x:=(h_,())) h
def g44:Cfg:={ P:=Try.prog,take:=[(44,49),(44,62),(44,77),(44,78),(44,88),(44,100)],keep:=[((44,6),{ hd:=[1,2,3,4,5],bx:=[6],ex:=[2,4],rt:=[2] }),((44,10),{ hd:=[1,2,3,4,5,6,7],bx:=[],ex:=[1,2,3,4,5,6],rt:=[2] }),((44,16),{ hd:=[1,2,3,4,5,8],bx:=[],ex:=[1,2,3,4,5],rt:=[2] })],gho:=[],ctx:=[(40,C40),(60,C60),(67,C67),(68,C68),(69,C69),(70,C70)] }
@[simp] theorem g44_s:type_of% (cfg_s (g:=g44) rfl):=cfg_s rfl
theorem w44 {h_} {y} (hp:zbm h_=some y):∃ m,callo g44 0 44 [av .shr h_] mem0=some (Res.res y,m):=by
 refine st0 [.cell 2 27] Try.func44 ?_
 unfold zbm at hp
 obtain ⟨y_1,h_2,hp⟩:=zaa hp
 have c_3:=C67_eq h_2
 simp at c_3
 simp [Try.f44,c_3]
 rcases zad hp with ⟨h_4,hp⟩|⟨h_4,hp⟩
 ·try simp at h_4
  try simp [h_4]
  rcases zad hp with ⟨h_5,hp⟩|⟨h_5,hp⟩
  ·try simp at h_5
   cases hp
   simp [Goal,FnEnd,retR,rsrc,RSrc.val,nodupR,nodup,tupPart,h_4,h_5]
  ·try simp at h_5
   obtain ⟨y_6,h_7,hp⟩:=zaa hp
   have c_8:=zgh h_7
   simp at c_8
   try simp [h_4,h_5,c_8]
   rcases zad hp with ⟨h_9,hp⟩|⟨h_9,hp⟩
   ·try simp at h_9
    try simp [h_4,h_5,h_9]
    obtain ⟨r_89,h_90,hp⟩:=zaa hp
    obtain ⟨I_12,I_12_⟩:=exV fun (s_10:Int × (List TNode) × (List Int)) (σ:St)=>(σ.env 1=uP (1,1)∧σ.env 2=uP (1,2)∧σ.env 3=uI (h_.next.length:Int)∧σ.env 4=uP (1,4)∧σ.env 5=uI s_10.1∧σ.mem (1,1)=some [cL .shr h_.vars,cL .shr h_.next]∧σ.mem (1,2)=some [.l .own 0 [],.l .own 0 []]∧σ.mem (1,4)=some [cL .own s_10.2.1,cL .own s_10.2.2])∧NoBox [(1,1),(1,2),(1,4)] σ.mem
    obtain ⟨X_13,X_13_⟩:=exV fun (r_89:(List TNode) × (List Int)) (out:Out)=>∃ σ:St,out=.exit 0 σ∧(σ.env 2=uP (1,2)∧σ.env 4=uP (1,4)∧σ.mem (1,1)=some [cL .shr h_.vars,cL .shr h_.next]∧σ.mem (1,2)=some [.l .own 0 [],.l .own 0 []]∧σ.mem (1,4)=some [cL .own r_89.1,cL .own r_89.2])∧NoBox [(1,1),(1,2),(1,4)] σ.mem
    refine loopP ({ hd:=[1,2,3,4,5],bx:=[6],ex:=[2,4],rt:=[2] }) I_12 X_13 h_90 (by exact rfl) ?_ ?_ ?_
    ·rw [I_12_]
     exact ⟨by simp [zac,zab,h_4,h_5,h_9],NoBox.restrict (by intro k hk hb;simp at hk hb;simp [hk,hb,h_4,h_5,h_9])⟩
    ·intro s_10 σ_14 a_11 hI hp
     rw [I_12_] at hI
     obtain ⟨q_16,hn_15⟩:=hI
     try simp [h_4,h_5,h_9,q_16]
     rcases zad hp with ⟨h_17,hp⟩|⟨h_17,hp⟩
     ·try simp at h_17
      obtain ⟨y_18,h_19,hp⟩:=zaa hp
      have c_20:=C68_eq h_19
      simp at c_20
      obtain ⟨y_21,h_22,hp⟩:=zaa hp
      have c_23:=C60_eq h_22
      simp at c_23
      have n_24:=hn_15 (1,6) (by simp)
      try simp [h_4,h_5,h_9,q_16,h_17,c_20,c_23,n_24]
      obtain ⟨r_59,h_60,hp⟩:=zaa hp
      obtain ⟨I_27,I_27_⟩:=exV fun (s_25:Int × (List Int) × (List Int)) (σ:St)=>(σ.env 1=uP (1,1)∧σ.env 2=uP (1,2)∧σ.env 3=uI (h_.next.length:Int)∧σ.env 4=uP (1,4)∧σ.env 5=uI s_10.1∧σ.env 6=uP (1,6)∧σ.env 7=uI s_25.1∧σ.mem (1,1)=some [cL .shr h_.vars,cL .shr h_.next]∧σ.mem (1,2)=some [.l .own 0 [],.l .own 0 []]∧σ.mem (1,4)=some [cL .own s_10.2.1,cL .own s_10.2.2]∧σ.mem (1,6)=some [cL .own s_25.2.1,cL .own s_25.2.2,cI y_21,cI 0])∧NoBox [(1,1),(1,2),(1,4),(1,6)] σ.mem
      obtain ⟨X_28,X_28_⟩:=exV fun (r_59:(List Int) × (List Int)) (out:Out)=>∃ σ:St,out=.exit 2 σ∧(σ.env 1=uP (1,1)∧σ.env 2=uP (1,2)∧σ.env 3=uI (h_.next.length:Int)∧σ.env 4=uP (1,4)∧σ.env 5=uI s_10.1∧σ.env 6=uP (1,6)∧σ.mem (1,1)=some [cL .shr h_.vars,cL .shr h_.next]∧σ.mem (1,2)=some [.l .own 0 [],.l .own 0 []]∧σ.mem (1,4)=some [cL .own s_10.2.1,cL .own s_10.2.2]∧σ.mem (1,6)=some [cL .own r_59.1,cL .own r_59.2,cI y_21,cI 0])∧NoBox [(1,1),(1,2),(1,4),(1,6)] σ.mem
      refine loopP ({ hd:=[1,2,3,4,5,6,7],bx:=[],ex:=[1,2,3,4,5,6],rt:=[2] }) I_27 X_28 h_60 (by exact rfl) ?_ ?_ ?_
      ·rw [I_27_]
       exact ⟨by simp [zac,zab,h_4,h_5,h_9,q_16,h_17],NoBox.restrict (by intro k hk hb;simp at hk hb;simp [hk,hb,h_4,h_5,h_9,q_16,h_17,hn_15 k (by simp [hk,hb])])⟩
      ·intro s_25 σ_29 a_26 hI hp
       rw [I_27_] at hI
       obtain ⟨q_31,hn_30⟩:=hI
       try simp [h_4,h_5,h_9,h_17,q_31]
       rcases zad hp with ⟨h_32,hp⟩|⟨h_32,hp⟩
       ·try simp at h_32
        obtain ⟨e_33,h_34,hp⟩:=zaa hp
        have b_35:=at_lo h_34
        have b_36:=at_hi h_34
        try simp at b_35 b_36
        have c_37:=seg_at' h_34 0 1 (by decide) (ds:=[.sc (.int .i64 e_33)]) rfl
        try simp at c_37
        obtain ⟨y_38,h_39,hp⟩:=zaa hp
        have c_40:=C60_eq h_39
        simp at c_40
        obtain ⟨_,h_41,hp⟩:=zaa hp
        have b_42:=zau h_41
        try simp at b_42
        obtain ⟨e_43,h_44,hp⟩:=zaa hp
        cases Option.some.inj (h_34.symm.trans h_44)
        have b_45:=at_lo h_34
        have b_46:=at_hi h_34
        try simp at b_45 b_46
        have c_47:=seg_at' h_34 0 1 (by decide) (ds:=[.sc (.int .i64 e_33)]) rfl
        try simp at c_47
        obtain ⟨y_48,h_49,hp⟩:=zaa hp
        have c_50:=C70_eq h_49
        simp at c_50
        obtain ⟨y_51,h_52,hp⟩:=zaa hp
        have c_53:=C69_eq h_52
        simp at c_53
        obtain ⟨y_54,h_55,hp⟩:=zaa hp
        have c_56:=C60_eq h_55
        simp at c_56
        obtain ⟨_,h_57,hp⟩:=zaa hp
        have b_58:=zau h_57
        try simp at b_58
        cases hp
        try simp [h_4,h_5,h_9,h_17,q_31,h_32,b_35,b_36,c_37,c_40,b_42,b_45,b_46,c_47,c_50,c_53,c_56,b_58]
        refine zae ?_
        rw [I_27_]
        exact ⟨by simp [zac,zab,h_4,h_5,h_9,h_17,q_31,h_32,b_35,b_36,c_37,c_40,b_42,b_45,b_46,c_47,c_50,c_53,c_56,b_58],NoBox.restrict (by intro k hk hb;simp at hk hb;simp [hk,hb,h_4,h_5,h_9,h_17,q_31,h_32,b_35,b_36,c_37,c_40,b_42,b_45,b_46,c_47,c_50,c_53,c_56,b_58,hn_30 k (by simp [hk,hb])])⟩
       ·try simp at h_32
        cases hp
        try simp [h_4,h_5,h_9,h_17,q_31,h_32]
        refine zag ?_
        rw [X_28_]
        exact ⟨_,rfl,by simp [zac,zab,h_4,h_5,h_9,h_17,q_31,h_32],NoBox.restrict (by intro k hk hb;simp at hk hb;simp [hk,hb,h_4,h_5,h_9,h_17,q_31,h_32,hn_30 k (by simp [hk,hb])])⟩
      ·intro out hX
       rw [X_28_] at hX
       obtain ⟨σ_61,rfl,q_63,hn_62⟩:=hX
       obtain ⟨_,h_64,hp⟩:=zaa hp
       have b_65:=zau h_64
       try simp at b_65
       try simp [h_4,h_5,h_9,h_17,q_63,b_65]
       obtain ⟨r_84,h_85,hp⟩:=zaa hp
       obtain ⟨I_68,I_68_⟩:=exV fun (s_66:Int × (List Int)) (σ:St)=>(σ.env 1=uP (1,1)∧σ.env 2=uP (1,2)∧σ.env 3=uI (h_.next.length:Int)∧σ.env 4=uP (1,4)∧σ.env 5=uI s_10.1∧σ.env 8=uI s_66.1∧σ.mem (1,1)=some [cL .shr h_.vars,cL .shr h_.next]∧σ.mem (1,2)=some [.l .own 0 [],.l .own 0 []]∧σ.mem (1,4)=some [cL .own (s_10.2.1 ++ [(⟨r_59.1,r_59.2,y_21,0⟩:TNode)]),cL .own s_66.2]∧σ.mem (1,6)=some [.dead,.dead,.dead,.dead])∧NoBox [(1,1),(1,2),(1,4),(1,6)] σ.mem
       obtain ⟨X_69,X_69_⟩:=exV fun (r_84:(List Int)) (out:Out)=>∃ σ:St,out=.exit 4 σ∧(σ.env 1=uP (1,1)∧σ.env 2=uP (1,2)∧σ.env 3=uI (h_.next.length:Int)∧σ.env 4=uP (1,4)∧σ.env 5=uI s_10.1∧σ.mem (1,1)=some [cL .shr h_.vars,cL .shr h_.next]∧σ.mem (1,2)=some [.l .own 0 [],.l .own 0 []]∧σ.mem (1,4)=some [cL .own (s_10.2.1 ++ [(⟨r_59.1,r_59.2,y_21,0⟩:TNode)]),cL .own r_84]∧σ.mem (1,6)=some [.dead,.dead,.dead,.dead])∧NoBox [(1,1),(1,2),(1,4),(1,6)] σ.mem
       refine loopP ({ hd:=[1,2,3,4,5,8],bx:=[],ex:=[1,2,3,4,5],rt:=[2] }) I_68 X_69 h_85 (by exact rfl) ?_ ?_ ?_
       ·rw [I_68_]
        exact ⟨by simp [zac,zab,h_4,h_5,h_9,h_17,q_63],NoBox.restrict (by intro k hk hb;simp at hk hb;simp [hk,hb,h_4,h_5,h_9,h_17,q_63,hn_62 k (by simp [hk,hb])])⟩
       ·intro s_66 σ_70 a_67 hI hp
        rw [I_68_] at hI
        obtain ⟨q_72,hn_71⟩:=hI
        try simp [h_4,h_5,h_9,h_17,q_72]
        rcases zad hp with ⟨h_73,hp⟩|⟨h_73,hp⟩
        ·try simp at h_73
         obtain ⟨e_74,h_75,hp⟩:=zaa hp
         have b_76:=at_lo h_75
         have b_77:=at_hi h_75
         try simp at b_76 b_77
         have c_78:=seg_at' h_75 0 1 (by decide) (ds:=[.sc (.int .i64 e_74)]) rfl
         try simp at c_78
         obtain ⟨y_79,h_80,hp⟩:=zaa hp
         have c_81:=C60_eq h_80
         simp at c_81
         obtain ⟨_,h_82,hp⟩:=zaa hp
         have b_83:=zau h_82
         try simp at b_83
         cases hp
         try simp [h_4,h_5,h_9,h_17,q_72,h_73,b_76,b_77,c_78,c_81,b_83]
         refine zae ?_
         rw [I_68_]
         exact ⟨by simp [zac,zab,h_4,h_5,h_9,h_17,q_72,h_73,b_76,b_77,c_78,c_81,b_83],NoBox.restrict (by intro k hk hb;simp at hk hb;simp [hk,hb,h_4,h_5,h_9,h_17,q_72,h_73,b_76,b_77,c_78,c_81,b_83,hn_71 k (by simp [hk,hb])])⟩
        ·try simp at h_73
         cases hp
         try simp [h_4,h_5,h_9,h_17,q_72,h_73]
         refine zag ?_
         rw [X_69_]
         exact ⟨_,rfl,by simp [zac,zab,h_4,h_5,h_9,h_17,q_72,h_73],NoBox.restrict (by intro k hk hb;simp at hk hb;simp [hk,hb,h_4,h_5,h_9,h_17,q_72,h_73,hn_71 k (by simp [hk,hb])])⟩
       ·intro out hX
        rw [X_69_] at hX
        obtain ⟨σ_86,rfl,q_88,hn_87⟩:=hX
        cases hp
        try simp [h_4,h_5,h_9,h_17,q_88]
        refine zae ?_
        rw [I_12_]
        exact ⟨by simp [zac,zab,h_4,h_5,h_9,h_17,q_88],NoBox.restrict (by intro k hk hb;simp at hk hb;simp [hk,hb,h_4,h_5,h_9,h_17,q_88,hn_87 k (by simp [hk,hb])])⟩
     ·try simp at h_17
      cases hp
      try simp [h_4,h_5,h_9,q_16,h_17]
      refine zag ?_
      rw [X_13_]
      exact ⟨_,rfl,by simp [zac,zab,h_4,h_5,h_9,q_16,h_17],NoBox.restrict (by intro k hk hb;simp at hk hb;simp [hk,hb,h_4,h_5,h_9,q_16,h_17,hn_15 k (by simp [hk,hb])])⟩
    ·intro out hX
     rw [X_13_] at hX
     obtain ⟨σ_91,rfl,q_93,hn_92⟩:=hX
     cases hp
     simp [Goal,FnEnd,retR,rsrc,RSrc.val,nodupR,nodup,tupPart,h_4,h_5,h_9,q_93]
   ·try simp at h_9
    cases hp
    simp [Goal,FnEnd,retR,rsrc,RSrc.val,nodupR,nodup,tupPart,h_4,h_5,h_9]
 ·try simp at h_4
  cases hp
  simp [Goal,FnEnd,retR,rsrc,RSrc.val,nodupR,nodup,tupPart,h_4]
theorem pc44:PC Try.prog 44 C44:=pc_of (g:=g44) (zah _ g44_s.2.1 ⟨pc40,pc60,pc67,pc68,pc69,pc70,trivial⟩) (ent Try.func44) fun x y h=>w44 h

def C30:List AV→Option AV:=specP (X:=TStructure × Unit) fun x=>zck x.1
theorem C30_eq {s} {y} (h:zck s=some y):C30 [av .shr s]=some (Res.res y):=zai (x:=(s,())) h
def g30:Cfg:={ P:=Try.prog,take:=[],keep:=[],gho:=[],ctx:=[] }
@[simp] theorem g30_s:type_of% (cfg_s (g:=g30) rfl):=cfg_s rfl
theorem w30 {s} {y} (hp:zck s=some y):∃ m,callo g30 0 30 [av .shr s] mem0=some (Res.res y,m):=by
 refine st0 [.tmp 2] Try.func30 ?_
 unfold zck at hp
 simp [Try.f30]
 rcases zad hp with ⟨h_1,hp⟩|⟨h_1,hp⟩
 ·try simp at h_1
  cases hp
  simp [Goal,FnEnd,h_1]
 ·try simp at h_1
  obtain ⟨e_2,h_3,hp⟩:=zaa hp
  have b_5:=at_hi h_3
  try simp at b_5
  have c_6:=seg_at' h_3 0 1 (by decide) (ds:=[.sl e_2.vars.length (encL e_2.vars)]) rfl
  try simp at c_6
  cases hp
  simp [Goal,FnEnd,h_1,b_5,c_6]
theorem pc30:PC Try.prog 30 C30:=pc_of (g:=g30) (zah [] rfl trivial) (ent Try.func30) fun x y h=>w30 h

def C39:List AV→Option AV:=specP (X:=Int × Unit) fun x=>zba x.1
theorem zob {a_} {y} (h:zba a_=some y):C39 [av .shr a_]=some (Res.res y):=zai (x:=(a_,())) h
def g39:Cfg:={ P:=Try.prog,take:=[],keep:=[],gho:=[],ctx:=[(40,C40)] }
@[simp] theorem g39_s:type_of% (cfg_s (g:=g39) rfl):=cfg_s rfl
theorem w39 {a_} {y} (hp:zba a_=some y):∃ m,callo g39 0 39 [av .shr a_] mem0=some (Res.res y,m):=by
 refine st0 [.tmp 2] Try.func39 ?_
 unfold zba at hp
 obtain ⟨y_1,h_2,hp⟩:=zaa hp
 have c_3:=zgh h_2
 simp at c_3
 cases hp
 simp [Try.f39,Goal,FnEnd,c_3]
theorem pc39:PC Try.prog 39 C39:=pc_of (g:=g39) (zah _ g39_s.2.1 ⟨pc40,trivial⟩) (ent Try.func39) fun x y h=>w39 h

def C38:List AV→Option AV:=specP (X:=(List Int) × Unit) fun x=>zce x.1
theorem C38_eq {list} {y} (h:zce list=some y):C38 [av .shr list]=some (Res.res y):=zai (x:=(list,())) h
def g38:Cfg:={ P:=Try.prog,take:=[],keep:=[((38,2),{ hd:=[0,3],bx:=[],ex:=[],rt:=[2] })],gho:=[],ctx:=[(39,C39)] }
@[simp] theorem g38_s:type_of% (cfg_s (g:=g38) rfl):=cfg_s rfl
theorem w38 {list} {y} (hp:zce list=some y):∃ m,callo g38 0 38 [av .shr list] mem0=some (Res.res y,m):=by
 refine st0 [.tmp 2] Try.func38 ?_
 unfold zce at hp
 simp [Try.f38]
 obtain ⟨r_18,h_19,hp⟩:=zaa hp
 obtain ⟨I_3,I_3_⟩:=exV fun (s_1:Int) (σ:St)=>(σ.env 0=uL .shr list∧σ.env 3=uI s_1)∧σ.mem=mem0
 obtain ⟨X_4,X_4_⟩:=exV fun (r_18:(Unit) ⊕ (Unit)) (out:Out)=>Sum.elim (fun r_18=>∃ σ:St,out=.ret σ∧σ.env 2=uB false∧σ.mem=mem0) (fun r_18=>∃ σ:St,out=.exit 0 σ∧σ.mem=mem0) r_18
 refine loopP ({ hd:=[0,3],bx:=[],ex:=[],rt:=[2] }) I_3 X_4 h_19 (by exact rfl) ?_ ?_ ?_
 ·rw [I_3_]
  exact ⟨by simp [zac,zab],by simp [zab]⟩
 ·intro s_1 σ_5 a_2 hI hp
  rw [I_3_] at hI
  obtain ⟨q_7,q_6⟩:=hI
  try simp [q_7,q_6]
  rcases zad hp with ⟨h_8,hp⟩|⟨h_8,hp⟩
  ·try simp at h_8
   obtain ⟨e_9,h_10,hp⟩:=zaa hp
   have b_11:=at_lo h_10
   have b_12:=at_hi h_10
   try simp at b_11 b_12
   have c_13:=seg_at' h_10 0 1 (by decide) (ds:=[.sc (.int .i64 e_9)]) rfl
   try simp at c_13
   obtain ⟨y_14,h_15,hp⟩:=zaa hp
   have c_16:=zob h_15
   simp at c_16
   try simp [q_7,q_6,h_8,b_11,b_12,c_13,c_16]
   rcases zad hp with ⟨h_17,hp⟩|⟨h_17,hp⟩
   ·try simp at h_17
    cases hp
    try simp [q_7,q_6,h_8,h_17]
    refine zae ?_
    rw [I_3_]
    exact ⟨by simp [zac,zab,q_7,q_6,h_8,h_17],by simp [zab,q_7,q_6,h_8,h_17]⟩
   ·try simp at h_17
    cases hp
    try simp [q_7,q_6,h_8,h_17]
    refine zaq ?_
    rw [X_4_]
    exact ⟨_,rfl,by simp [zac,zab,q_7,q_6,h_8,h_17],by simp [zab,q_7,q_6,h_8,h_17]⟩
  ·try simp at h_8
   cases hp
   try simp [q_7,q_6,h_8]
   refine zag ?_
   rw [X_4_]
   exact ⟨_,rfl,by simp [zab,q_7,q_6,h_8]⟩
 ·intro out hX
  rw [X_4_] at hX
  rcases r_18 with r_18 | r_18
  ·simp only [Sum.elim_inl,Sum.elim_inr] at hX hp
   obtain ⟨σ_20,rfl,q_22,q_21⟩:=hX
   cases hp
   simp [Goal,FnEnd,q_22,q_21]
  ·simp only [Sum.elim_inl,Sum.elim_inr] at hX hp
   obtain ⟨σ_23,rfl,q_24⟩:=hX
   cases hp
   simp [Goal,FnEnd,q_24]
theorem pc38:PC Try.prog 38 C38:=pc_of (g:=g38) (zah _ g38_s.2.1 ⟨pc39,trivial⟩) (ent Try.func38) fun x y h=>w38 h

def C12:List AV→Option AV:=specP (X:=Int × TStructure × Unit) fun x=>zav x.1 x.2.1
theorem C12_eq {vars s} {y} (h:zav vars s=some y):C12 [av .shr vars,av .shr s]=some (Res.res y):=zai (x:=(vars,s,())) h
def g12:Cfg:={ P:=Try.prog,take:=[],keep:=[((12,3),{ hd:=[0,3,5,6],bx:=[7],ex:=[0,3,5],rt:=[4] })],gho:=[],ctx:=[(38,C38),(39,C39),(40,C40)] }
@[simp] theorem g12_s:type_of% (cfg_s (g:=g12) rfl):=cfg_s rfl
theorem w12 {vars s} {y} (hp:zav vars s=some y):∃ m,callo g12 0 12 [av .shr vars,av .shr s] mem0=some (Res.res y,m):=by
 refine st0 [.tmp 4] Try.func12 ?_
 unfold zav at hp
 simp [Try.f12]
 obtain ⟨r_33,h_34,hp⟩:=zaa hp
 obtain ⟨I_3,I_3_⟩:=exV fun (s_1:Int) (σ:St)=>(σ.env 0=uI vars∧σ.env 3=uP (1,3)∧σ.env 5=uI (s.nodes.length:Int)∧σ.env 6=uI s_1∧σ.mem (1,3)=some [cL .shr s.nodes,cL .shr s.next])∧NoBox [(1,3)] σ.mem
 obtain ⟨X_4,X_4_⟩:=exV fun (r_33:(Unit) ⊕ (Unit)) (out:Out)=>Sum.elim (fun r_33=>∃ σ:St,out=.ret σ∧(σ.env 4=uB false∧σ.mem (1,3)=some [cL .shr s.nodes,cL .shr s.next])∧NoBox [(1,3)] σ.mem) (fun r_33=>∃ σ:St,out=.exit 0 σ∧(σ.env 0=uI vars∧σ.env 3=uP (1,3)∧σ.env 5=uI (s.nodes.length:Int)∧σ.mem (1,3)=some [cL .shr s.nodes,cL .shr s.next])∧NoBox [(1,3)] σ.mem) r_33
 refine loopP ({ hd:=[0,3,5,6],bx:=[7],ex:=[0,3,5],rt:=[4] }) I_3 X_4 h_34 (by exact rfl) ?_ ?_ ?_
 ·rw [I_3_]
  exact ⟨by simp [zac,zab],NoBox.restrict (by intro k hk hb;simp at hk hb;simp [hk,hb])⟩
 ·intro s_1 σ_5 a_2 hI hp
  rw [I_3_] at hI
  obtain ⟨q_7,hn_6⟩:=hI
  try simp [q_7]
  rcases zad hp with ⟨h_8,hp⟩|⟨h_8,hp⟩
  ·try simp at h_8
   obtain ⟨e_9,h_10,hp⟩:=zaa hp
   have b_11:=at_lo h_10
   have b_12:=at_hi h_10
   try simp at b_11 b_12
   have c_13:=seg_at' h_10 0 4 (by decide) (ds:=[.sl e_9.vars.length (encL e_9.vars),.sl e_9.reach.length (encL e_9.reach),.sc (.int .i64 e_9.shared),.sc (.int .i64 e_9.many)]) rfl
   try simp at c_13
   have n_14:=hn_6 (1,7) (by simp)
   try simp [q_7,h_8,b_11,b_12,c_13,n_14]
   rcases zad hp with ⟨h_15,hp⟩|⟨h_15,hp⟩
   ·try simp at h_15
    cases hp
    try simp [q_7,h_8,h_15]
    refine zaq ?_
    rw [X_4_]
    exact ⟨_,rfl,by simp [zac,zab,q_7,h_8,h_15],NoBox.restrict (by intro k hk hb;simp at hk hb;simp [hk,hb,q_7,h_8,h_15,hn_6 k (by simp [hk,hb])])⟩
   ·try simp at h_15
    try simp [q_7,h_8,h_15]
    rcases zad hp with ⟨h_16,hp⟩|⟨h_16,hp⟩
    ·try simp at h_16
     cases hp
     try simp [q_7,h_8,h_15,h_16]
     refine zaq ?_
     rw [X_4_]
     exact ⟨_,rfl,by simp [zac,zab,q_7,h_8,h_15,h_16],NoBox.restrict (by intro k hk hb;simp at hk hb;simp [hk,hb,q_7,h_8,h_15,h_16,hn_6 k (by simp [hk,hb])])⟩
    ·try simp at h_16
     obtain ⟨y_17,h_18,hp⟩:=zaa hp
     have c_19:=C38_eq h_18
     simp at c_19
     try simp [q_7,h_8,h_15,h_16,c_19]
     rcases zad hp with ⟨h_20,hp⟩|⟨h_20,hp⟩
     ·try simp at h_20
      obtain ⟨y_21,h_22,hp⟩:=zaa hp
      have c_23:=C38_eq h_22
      simp at c_23
      try simp [q_7,h_8,h_15,h_16,h_20,c_23]
      rcases zad hp with ⟨h_24,hp⟩|⟨h_24,hp⟩
      ·try simp at h_24
       obtain ⟨y_25,h_26,hp⟩:=zaa hp
       have c_27:=zob h_26
       simp at c_27
       try simp [q_7,h_8,h_15,h_16,h_20,h_24,c_27]
       rcases zad hp with ⟨h_28,hp⟩|⟨h_28,hp⟩
       ·try simp at h_28
        obtain ⟨y_29,h_30,hp⟩:=zaa hp
        have c_31:=zgh h_30
        simp at c_31
        try simp [q_7,h_8,h_15,h_16,h_20,h_24,h_28,c_31]
        rcases zad hp with ⟨h_32,hp⟩|⟨h_32,hp⟩
        ·try simp at h_32
         cases hp
         try simp [q_7,h_8,h_15,h_16,h_20,h_24,h_28,h_32]
         refine zae ?_
         rw [I_3_]
         exact ⟨by simp [zac,zab,q_7,h_8,h_15,h_16,h_20,h_24,h_28,h_32],NoBox.restrict (by intro k hk hb;simp at hk hb;simp [hk,hb,q_7,h_8,h_15,h_16,h_20,h_24,h_28,h_32,hn_6 k (by simp [hk,hb])])⟩
        ·try simp at h_32
         cases hp
         try simp [q_7,h_8,h_15,h_16,h_20,h_24,h_28,h_32]
         refine zaq ?_
         rw [X_4_]
         exact ⟨_,rfl,by simp [zac,zab,q_7,h_8,h_15,h_16,h_20,h_24,h_28,h_32],NoBox.restrict (by intro k hk hb;simp at hk hb;simp [hk,hb,q_7,h_8,h_15,h_16,h_20,h_24,h_28,h_32,hn_6 k (by simp [hk,hb])])⟩
       ·try simp at h_28
        cases hp
        try simp [q_7,h_8,h_15,h_16,h_20,h_24,h_28]
        refine zaq ?_
        rw [X_4_]
        exact ⟨_,rfl,by simp [zac,zab,q_7,h_8,h_15,h_16,h_20,h_24,h_28],NoBox.restrict (by intro k hk hb;simp at hk hb;simp [hk,hb,q_7,h_8,h_15,h_16,h_20,h_24,h_28,hn_6 k (by simp [hk,hb])])⟩
      ·try simp at h_24
       cases hp
       try simp [q_7,h_8,h_15,h_16,h_20,h_24]
       refine zaq ?_
       rw [X_4_]
       exact ⟨_,rfl,by simp [zac,zab,q_7,h_8,h_15,h_16,h_20,h_24],NoBox.restrict (by intro k hk hb;simp at hk hb;simp [hk,hb,q_7,h_8,h_15,h_16,h_20,h_24,hn_6 k (by simp [hk,hb])])⟩
     ·try simp at h_20
      cases hp
      try simp [q_7,h_8,h_15,h_16,h_20]
      refine zaq ?_
      rw [X_4_]
      exact ⟨_,rfl,by simp [zac,zab,q_7,h_8,h_15,h_16,h_20],NoBox.restrict (by intro k hk hb;simp at hk hb;simp [hk,hb,q_7,h_8,h_15,h_16,h_20,hn_6 k (by simp [hk,hb])])⟩
  ·try simp at h_8
   cases hp
   try simp [q_7,h_8]
   refine zag ?_
   rw [X_4_]
   exact ⟨_,rfl,by simp [zac,zab,q_7,h_8],NoBox.restrict (by intro k hk hb;simp at hk hb;simp [hk,hb,q_7,h_8,hn_6 k (by simp [hk,hb])])⟩
 ·intro out hX
  rw [X_4_] at hX
  rcases r_33 with r_33 | r_33
  ·simp only [Sum.elim_inl,Sum.elim_inr] at hX hp
   obtain ⟨σ_35,rfl,q_37,hn_36⟩:=hX
   cases hp
   simp [Goal,FnEnd,q_37]
  ·simp only [Sum.elim_inl,Sum.elim_inr] at hX hp
   obtain ⟨σ_38,rfl,q_40,hn_39⟩:=hX
   obtain ⟨y_41,h_42,hp⟩:=zaa hp
   have c_43:=zgh h_42
   simp at c_43
   try simp [q_40,c_43]
   rcases zad hp with ⟨h_44,hp⟩|⟨h_44,hp⟩
   ·try simp at h_44
    try simp [q_40,h_44]
    rcases zad hp with ⟨h_45,hp⟩|⟨h_45,hp⟩
    ·try simp at h_45
     try simp [q_40,h_44,h_45]
     rcases zad hp with ⟨h_46,hp⟩|⟨h_46,hp⟩
     ·try simp at h_46
      obtain ⟨y_47,h_48,hp⟩:=zaa hp
      have c_49:=C38_eq h_48
      simp at c_49
      cases hp
      simp [Goal,FnEnd,q_40,h_44,h_45,h_46,c_49]
     ·try simp at h_46
      cases hp
      simp [Goal,FnEnd,q_40,h_44,h_45,h_46]
    ·try simp at h_45
     cases hp
     simp [Goal,FnEnd,q_40,h_44,h_45]
   ·try simp at h_44
    cases hp
    simp [Goal,FnEnd,q_40,h_44]
theorem pc12:PC Try.prog 12 C12:=pc_of (g:=g12) (zah _ g12_s.2.1 ⟨pc38,pc39,pc40,trivial⟩) (ent Try.func12) fun x y h=>w12 h

def C59:List AV→Option AV:=specP (X:=TNode × Unit) fun x=>zbf x.1
theorem C59_eq {x_} {y} (h:zbf x_=some y):C59 [av .shr x_]=some (Res.res y):=zai (x:=(x_,())) h
def g59:Cfg:={ P:=Try.prog,take:=[],keep:=[],gho:=[],ctx:=[] }
@[simp] theorem g59_s:type_of% (cfg_s (g:=g59) rfl):=cfg_s rfl
theorem w59 {x_} {y} (hp:zbf x_=some y):∃ m,callo g59 0 59 [av .shr x_] mem0=some (Res.res y,m):=by
 refine st0 [.cell 2 54] Try.func59 ?_
 unfold zbf at hp
 obtain ⟨_,h_1,hp⟩:=zaa hp
 have b_2:=zau h_1
 try simp at b_2
 obtain ⟨_,h_3,hp⟩:=zaa hp
 have b_4:=zau h_3
 try simp at b_4
 cases hp
 simp [Try.f59,Goal,FnEnd,retR,rsrc,RSrc.val,nodupR,nodup,tupPart,b_2,b_4]
theorem pc59:PC Try.prog 59 C59:=pc_of (g:=g59) (zah [] rfl trivial) (ent Try.func59) fun x y h=>w59 h

def C31:List AV→Option AV:=specP (X:=TStructure × Unit) fun x=>zcl x.1
theorem C31_eq {s} {y} (h:zcl s=some y):C31 [av .shr s]=some (Res.res y):=zai (x:=(s,())) h
def g31:Cfg:={ P:=Try.prog,take:=[(31,18),(31,28)],keep:=[((31,3),{ hd:=[1,2,3,4],bx:=[],ex:=[2,3],rt:=[2] })],gho:=[],ctx:=[(59,C59)] }
@[simp] theorem g31_s:type_of% (cfg_s (g:=g31) rfl):=cfg_s rfl
theorem w31 {s} {y} (hp:zcl s=some y):∃ m,callo g31 0 31 [av .shr s] mem0=some (Res.res y,m):=by
 refine st0 [.cell 2 27] Try.func31 ?_
 unfold zcl at hp
 obtain ⟨_,h_1,hp⟩:=zaa hp
 have b_2:=zau h_1
 try simp at b_2
 simp [Try.f31,b_2]
 obtain ⟨r_21,h_22,hp⟩:=zaa hp
 obtain ⟨I_5,I_5_⟩:=exV fun (s_3:Int × (List TNode)) (σ:St)=>(σ.env 1=uP (1,1)∧σ.env 2=uP (1,2)∧σ.env 3=uP (1,3)∧σ.env 4=uI s_3.1∧σ.mem (1,1)=some [cL .shr s.nodes,cL .shr s.next]∧σ.mem (1,2)=some [.l .own 0 [],.l .own 0 []]∧σ.mem (1,3)=some [cL .own s_3.2,cL .own s.next])∧NoBox [(1,1),(1,2),(1,3)] σ.mem
 obtain ⟨X_6,X_6_⟩:=exV fun (r_21:(List TNode)) (out:Out)=>∃ σ:St,out=.exit 0 σ∧(σ.env 2=uP (1,2)∧σ.env 3=uP (1,3)∧σ.mem (1,1)=some [cL .shr s.nodes,cL .shr s.next]∧σ.mem (1,2)=some [.l .own 0 [],.l .own 0 []]∧σ.mem (1,3)=some [cL .own r_21,cL .own s.next])∧NoBox [(1,1),(1,2),(1,3)] σ.mem
 refine loopP ({ hd:=[1,2,3,4],bx:=[],ex:=[2,3],rt:=[2] }) I_5 X_6 h_22 (by exact rfl) ?_ ?_ ?_
 ·rw [I_5_]
  exact ⟨by simp [zac,zab],NoBox.restrict (by intro k hk hb;simp at hk hb;simp [hk,hb])⟩
 ·intro s_3 σ_7 a_4 hI hp
  rw [I_5_] at hI
  obtain ⟨q_9,hn_8⟩:=hI
  try simp [q_9]
  rcases zad hp with ⟨h_10,hp⟩|⟨h_10,hp⟩
  ·try simp at h_10
   obtain ⟨e_11,h_12,hp⟩:=zaa hp
   have b_13:=at_lo h_12
   have b_14:=at_hi h_12
   try simp at b_13 b_14
   have c_15:=seg_at' h_12 0 4 (by decide) (ds:=[.sl e_11.vars.length (encL e_11.vars),.sl e_11.reach.length (encL e_11.reach),.sc (.int .i64 e_11.shared),.sc (.int .i64 e_11.many)]) rfl
   try simp at c_15
   obtain ⟨y_16,h_17,hp⟩:=zaa hp
   have c_18:=C59_eq h_17
   simp at c_18
   obtain ⟨_,h_19,hp⟩:=zaa hp
   have b_20:=zau h_19
   try simp at b_20
   cases hp
   try simp [q_9,h_10,b_13,b_14,c_15,c_18,b_20]
   refine zae ?_
   rw [I_5_]
   exact ⟨by simp [zac,zab,q_9,h_10,b_13,b_14,c_15,c_18,b_20],NoBox.restrict (by intro k hk hb;simp at hk hb;simp [hk,hb,q_9,h_10,b_13,b_14,c_15,c_18,b_20,hn_8 k (by simp [hk,hb])])⟩
  ·try simp at h_10
   cases hp
   try simp [q_9,h_10]
   refine zag ?_
   rw [X_6_]
   exact ⟨_,rfl,by simp [zac,zab,q_9,h_10],NoBox.restrict (by intro k hk hb;simp at hk hb;simp [hk,hb,q_9,h_10,hn_8 k (by simp [hk,hb])])⟩
 ·intro out hX
  rw [X_6_] at hX
  obtain ⟨σ_23,rfl,q_25,hn_24⟩:=hX
  cases hp
  simp [Goal,FnEnd,retR,rsrc,RSrc.val,nodupR,nodup,tupPart,q_25]
theorem pc31:PC Try.prog 31 C31:=pc_of (g:=g31) (zah _ g31_s.2.1 ⟨pc59,trivial⟩) (ent Try.func31) fun x y h=>w31 h
end Go.Proofs

