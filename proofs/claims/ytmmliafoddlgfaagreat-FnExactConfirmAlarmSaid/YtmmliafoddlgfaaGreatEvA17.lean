import Derived.Test.YtmmliafoddlgfaaGreatEvA16
set_option linter.unusedSimpArgs false
set_option linter.unusedVariables false
set_option linter.unnecessarySimpa false
noncomputable section
set_option maxHeartbeats 4000000
set_option maxRecDepth 100000
namespace Go.Proofs
open Go.Ev
def C95:List AV→Option AV:=specP (X:=THeap × Unit) fun x=>impl_Heap_isCyclic x.1
theorem C95_eq {h_} {y} (h:impl_Heap_isCyclic h_=some y):C95 [av .shr h_]=some (Res.res y):=zai (x:=(h_,())) h
def g95:Cfg:={ P:=Tryz.prog,take:=[],keep:=[((95,2),{ hd:=[1,6,7],bx:=[],ex:=[],rt:=[2] })],gho:=[],ctx:=[(104,C104),(105,C105)] }
@[simp] theorem g95_s:type_of% (cfg_s (g:=g95) rfl):=cfg_s rfl
theorem w95 {h_} {y} (hp:impl_Heap_isCyclic h_=some y):∃ m,callo g95 0 95 [av .shr h_] mem0=some (Res.res y,m):=by
 refine st0 [.tmp 2] Tryz.func95 ?_
 unfold impl_Heap_isCyclic at hp
 simp [Tryz.f95]
 obtain ⟨r_21,h_22,hp⟩:=zab hp
 obtain ⟨I_3,I_3_⟩:=exV fun (s_1:Int) (σ:St)=>(σ.env 1=uP (1,1)∧σ.env 6=uI (h_.next.length:Int)∧σ.env 7=uI s_1∧σ.mem (1,1)=some [cL .shr h_.vars,cL .shr h_.next])∧NoBox [(1,1)] σ.mem
 obtain ⟨X_4,X_4_⟩:=exV fun (r_21:(Bool) ⊕ (Unit)) (out:Out)=>Sum.elim (fun r_21=>∃ σ:St,out=.ret σ∧(σ.env 2=uB r_21∧σ.mem (1,1)=some [cL .shr h_.vars,cL .shr h_.next])∧NoBox [(1,1)] σ.mem) (fun r_21=>∃ σ:St,out=.exit 0 σ∧σ.mem (1,1)=some [cL .shr h_.vars,cL .shr h_.next]∧NoBox [(1,1)] σ.mem) r_21
 refine loopP ({ hd:=[1,6,7],bx:=[],ex:=[],rt:=[2] }) I_3 X_4 h_22 (by exact rfl) ?_ ?_ ?_
 ·rw [I_3_]
  exact ⟨by simp [zac,zaa],NoBox.restrict (by intro k hk hb;simp at hk hb;simp [hk,hb])⟩
 ·intro s_1 σ_5 a_2 hI hp
  rw [I_3_] at hI
  obtain ⟨q_7,hn_6⟩:=hI
  try simp [q_7]
  rcases zad hp with ⟨h_8,hp⟩|⟨h_8,hp⟩
  ·try simp at h_8
   obtain ⟨e_9,h_10,hp⟩:=zab hp
   have b_11:=at_lo h_10
   have b_12:=at_hi h_10
   try simp at b_11 b_12
   have c_13:=seg_at' h_10 0 1 (by decide) (ds:=[.sc (.int .i64 e_9)]) rfl
   try simp at c_13
   obtain ⟨y_14,h_15,hp⟩:=zab hp
   have c_16:=C105_eq h_15
   simp at c_16
   obtain ⟨y_17,h_18,hp⟩:=zab hp
   have c_19:=C104_eq h_18
   simp at c_19
   try simp [q_7,h_8,b_11,b_12,c_13,c_16,c_19]
   rcases zad hp with ⟨h_20,hp⟩|⟨h_20,hp⟩
   ·try simp at h_20
    cases hp
    try simp [q_7,h_8,h_20]
    refine zao ?_
    rw [X_4_]
    exact ⟨_,rfl,by simp [zac,zaa,q_7,h_8,h_20],NoBox.restrict (by intro k hk hb;simp at hk hb;simp [hk,hb,q_7,h_8,h_20,hn_6 k (by simp [hk,hb])])⟩
   ·try simp at h_20
    cases hp
    try simp [q_7,h_8,h_20]
    refine zah ?_
    rw [I_3_]
    exact ⟨by simp [zac,zaa,q_7,h_8,h_20],NoBox.restrict (by intro k hk hb;simp at hk hb;simp [hk,hb,q_7,h_8,h_20,hn_6 k (by simp [hk,hb])])⟩
  ·try simp at h_8
   cases hp
   try simp [q_7,h_8]
   refine zal ?_
   rw [X_4_]
   exact ⟨_,rfl,by simp [zac,zaa,q_7,h_8],NoBox.restrict (by intro k hk hb;simp at hk hb;simp [hk,hb,q_7,h_8,hn_6 k (by simp [hk,hb])])⟩
 ·intro out hX
  rw [X_4_] at hX
  rcases r_21 with r_21 | r_21
  ·simp only [Sum.elim_inl,Sum.elim_inr] at hX hp
   obtain ⟨σ_23,rfl,q_25,hn_24⟩:=hX
   cases hp
   simp [Goal,FnEnd,q_25]
  ·simp only [Sum.elim_inl,Sum.elim_inr] at hX hp
   obtain ⟨σ_26,rfl,q_28,hn_27⟩:=hX
   cases hp
   simp [Goal,FnEnd,q_28]
theorem pc95:PC Tryz.prog 95 C95:=pc_of (g:=g95) (zaj _ g95_s.2.1 ⟨pc104,pc105,trivial⟩) (ent Tryz.func95) fun x y h=>w95 h

def C96:List AV→Option AV:=specP (X:=THeap × Unit) fun x=>impl_Heap_met x.1
theorem C96_eq {h_} {y} (h:impl_Heap_met h_=some y):C96 [av .shr h_]=some (Res.res y):=zai (x:=(h_,())) h
def g96:Cfg:={ P:=Tryz.prog,take:=[(96,28),(96,34)],keep:=[((96,3),{ hd:=[1,3,10,11,12],bx:=[],ex:=[3],rt:=[2] }),((96,6),{ hd:=[1,3,10,11,12,18,19,20],bx:=[],ex:=[1,3,10,11,12],rt:=[2] })],gho:=[],ctx:=[(104,C104),(105,C105)] }
@[simp] theorem g96_s:type_of% (cfg_s (g:=g96) rfl):=cfg_s rfl
theorem w96 {h_} {y} (hp:impl_Heap_met h_=some y):∃ m,callo g96 0 96 [av .shr h_] mem0=some (Res.res y,m):=by
 refine st0 [.tmp 2] Tryz.func96 ?_
 unfold impl_Heap_met at hp
 simp [Tryz.f96]
 obtain ⟨r_41,h_42,hp⟩:=zab hp
 obtain ⟨I_3,I_3_⟩:=exV fun (s_1:(List Int) × Int) (σ:St)=>(σ.env 1=uP (1,1)∧σ.env 3=uL .own s_1.1∧σ.env 10=uL .shr h_.vars∧σ.env 11=uI (h_.vars.length:Int)∧σ.env 12=uI s_1.2∧σ.mem (1,1)=some [cL .shr h_.vars,cL .shr h_.next])∧NoBox [(1,1)] σ.mem
 obtain ⟨X_4,X_4_⟩:=exV fun (r_41:(List Int)) (out:Out)=>∃ σ:St,out=.exit 0 σ∧(σ.env 3=uL .own r_41∧σ.mem (1,1)=some [cL .shr h_.vars,cL .shr h_.next])∧NoBox [(1,1)] σ.mem
 refine loopP ({ hd:=[1,3,10,11,12],bx:=[],ex:=[3],rt:=[2] }) I_3 X_4 h_42 (by exact rfl) ?_ ?_ ?_
 ·rw [I_3_]
  exact ⟨by simp [zac,zaa],NoBox.restrict (by intro k hk hb;simp at hk hb;simp [hk,hb])⟩
 ·intro s_1 σ_5 a_2 hI hp
  rw [I_3_] at hI
  obtain ⟨q_7,hn_6⟩:=hI
  try simp [q_7]
  rcases zad hp with ⟨h_8,hp⟩|⟨h_8,hp⟩
  ·try simp at h_8
   obtain ⟨e_9,h_10,hp⟩:=zab hp
   have b_11:=at_lo h_10
   have b_12:=at_hi h_10
   try simp at b_11 b_12
   have c_13:=seg_at' h_10 0 1 (by decide) (ds:=[.sc (.int .i64 e_9)]) rfl
   try simp at c_13
   obtain ⟨y_14,h_15,hp⟩:=zab hp
   have c_16:=C105_eq h_15
   simp at c_16
   try simp [q_7,h_8,b_11,b_12,c_13,c_16]
   obtain ⟨r_36,h_37,hp⟩:=zab hp
   obtain ⟨I_19,I_19_⟩:=exV fun (s_17:Int × (List Int)) (σ:St)=>(σ.env 1=uP (1,1)∧σ.env 3=uL .own s_17.2∧σ.env 10=uL .shr h_.vars∧σ.env 11=uI (h_.vars.length:Int)∧σ.env 12=uI s_1.2∧σ.env 18=uL .own y_14∧σ.env 19=uI (y_14.length:Int)∧σ.env 20=uI s_17.1∧σ.mem (1,1)=some [cL .shr h_.vars,cL .shr h_.next])∧NoBox [(1,1)] σ.mem
   obtain ⟨X_20,X_20_⟩:=exV fun (r_36:(List Int)) (out:Out)=>∃ σ:St,out=.exit 2 σ∧(σ.env 1=uP (1,1)∧σ.env 3=uL .own r_36∧σ.env 10=uL .shr h_.vars∧σ.env 11=uI (h_.vars.length:Int)∧σ.env 12=uI s_1.2∧σ.mem (1,1)=some [cL .shr h_.vars,cL .shr h_.next])∧NoBox [(1,1)] σ.mem
   refine loopP ({ hd:=[1,3,10,11,12,18,19,20],bx:=[],ex:=[1,3,10,11,12],rt:=[2] }) I_19 X_20 h_37 (by exact rfl) ?_ ?_ ?_
   ·rw [I_19_]
    exact ⟨by simp [zac,zaa,q_7,h_8],NoBox.restrict (by intro k hk hb;simp at hk hb;simp [hk,hb,q_7,h_8,hn_6 k (by simp [hk,hb])])⟩
   ·intro s_17 σ_21 a_18 hI hp
    rw [I_19_] at hI
    obtain ⟨q_23,hn_22⟩:=hI
    try simp [h_8,q_23]
    rcases zad hp with ⟨h_24,hp⟩|⟨h_24,hp⟩
    ·try simp at h_24
     obtain ⟨e_25,h_26,hp⟩:=zab hp
     have b_27:=at_lo h_26
     have b_28:=at_hi h_26
     try simp at b_27 b_28
     have c_29:=seg_at' h_26 0 1 (by decide) (ds:=[.sc (.int .i64 e_25)]) rfl
     try simp at c_29
     obtain ⟨y_30,h_31,hp⟩:=zab hp
     have c_32:=C104_eq h_31
     simp at c_32
     try simp [h_8,q_23,h_24,b_27,b_28,c_29,c_32]
     rcases zad hp with ⟨h_33,hp⟩|⟨h_33,hp⟩
     ·try simp at h_33
      cases hp
      try simp [h_8,q_23,h_24,h_33]
      refine zah ?_
      rw [I_19_]
      exact ⟨by simp [zac,zaa,h_8,q_23,h_24,h_33],NoBox.restrict (by intro k hk hb;simp at hk hb;simp [hk,hb,h_8,q_23,h_24,h_33,hn_22 k (by simp [hk,hb])])⟩
     ·try simp at h_33
      obtain ⟨_,h_34,hp⟩:=zab hp
      have b_35:=room_ok h_34
      try simp at b_35
      cases hp
      try simp [h_8,q_23,h_24,h_33,b_35]
      refine zah ?_
      rw [I_19_]
      exact ⟨by simp [zac,zaa,h_8,q_23,h_24,h_33,b_35],NoBox.restrict (by intro k hk hb;simp at hk hb;simp [hk,hb,h_8,q_23,h_24,h_33,b_35,hn_22 k (by simp [hk,hb])])⟩
    ·try simp at h_24
     cases hp
     try simp [h_8,q_23,h_24]
     refine zal ?_
     rw [X_20_]
     exact ⟨_,rfl,by simp [zac,zaa,h_8,q_23,h_24],NoBox.restrict (by intro k hk hb;simp at hk hb;simp [hk,hb,h_8,q_23,h_24,hn_22 k (by simp [hk,hb])])⟩
   ·intro out hX
    rw [X_20_] at hX
    obtain ⟨σ_38,rfl,q_40,hn_39⟩:=hX
    cases hp
    try simp [h_8,q_40]
    refine zah ?_
    rw [I_3_]
    exact ⟨by simp [zac,zaa,h_8,q_40],NoBox.restrict (by intro k hk hb;simp at hk hb;simp [hk,hb,h_8,q_40,hn_39 k (by simp [hk,hb])])⟩
  ·try simp at h_8
   cases hp
   try simp [q_7,h_8]
   refine zal ?_
   rw [X_4_]
   exact ⟨_,rfl,by simp [zac,zaa,q_7,h_8],NoBox.restrict (by intro k hk hb;simp at hk hb;simp [hk,hb,q_7,h_8,hn_6 k (by simp [hk,hb])])⟩
 ·intro out hX
  rw [X_4_] at hX
  obtain ⟨σ_43,rfl,q_45,hn_44⟩:=hX
  cases hp
  simp [Goal,FnEnd,q_45]
theorem pc96:PC Tryz.prog 96 C96:=pc_of (g:=g96) (zaj _ g96_s.2.1 ⟨pc104,pc105,trivial⟩) (ent Tryz.func96) fun x y h=>w96 h

def C54:List AV→Option AV:=specP (X:=Int × THeap × Unit) fun x=>impl_IsHeap x.1 x.2.1
theorem C54_eq {vars h_} {y} (h:impl_IsHeap vars h_=some y):C54 [av .shr vars,av .shr h_]=some (Res.res y):=zai (x:=(vars,h_,())) h
def g54:Cfg:={ P:=Tryz.prog,take:=[],keep:=[((54,5),{ hd:=[3,5,35,36,37],bx:=[],ex:=[3,5],rt:=[4] })],gho:=[],ctx:=[(56,C56),(94,C94),(95,C95),(96,C96)] }
@[simp] theorem g54_s:type_of% (cfg_s (g:=g54) rfl):=cfg_s rfl
theorem w54 {vars h_} {y} (hp:impl_IsHeap vars h_=some y):∃ m,callo g54 0 54 [av .shr vars,av .shr h_] mem0=some (Res.res y,m):=by
 refine st0 [.tmp 4] Tryz.func54 ?_
 unfold impl_IsHeap at hp
 obtain ⟨y_1,h_2,hp⟩:=zab hp
 have c_3:=C56_eq h_2
 simp at c_3
 simp [Tryz.f54,c_3]
 rcases zad hp with ⟨h_4,hp⟩|⟨h_4,hp⟩
 ·try simp at h_4
  try simp [h_4]
  rcases zad hp with ⟨h_5,hp⟩|⟨h_5,hp⟩
  ·try simp at h_5
   cases hp
   simp [Goal,FnEnd,h_4,h_5]
  ·try simp at h_5
   try simp [h_4,h_5]
   rcases zad hp with ⟨h_6,hp⟩|⟨h_6,hp⟩
   ·try simp at h_6
    cases hp
    simp [Goal,FnEnd,h_4,h_5,h_6]
   ·try simp at h_6
    obtain ⟨y_7,h_8,hp⟩:=zab hp
    have c_9:=C94_eq h_8
    simp at c_9
    try simp [h_4,h_5,h_6,c_9]
    rcases zad hp with ⟨h_10,hp⟩|⟨h_10,hp⟩
    ·try simp at h_10
     obtain ⟨y_11,h_12,hp⟩:=zab hp
     have c_13:=C95_eq h_12
     simp at c_13
     try simp [h_4,h_5,h_6,h_10,c_13]
     rcases zad hp with ⟨h_14,hp⟩|⟨h_14,hp⟩
     ·try simp at h_14
      cases hp
      simp [Goal,FnEnd,h_4,h_5,h_6,h_10,h_14]
     ·try simp at h_14
      obtain ⟨y_15,h_16,hp⟩:=zab hp
      have c_17:=C96_eq h_16
      simp at c_17
      try simp [h_4,h_5,h_6,h_10,h_14,c_17]
      obtain ⟨r_32,h_33,hp⟩:=zab hp
      obtain ⟨I_20,I_20_⟩:=exV fun (s_18:Int) (σ:St)=>(σ.env 3=uP (1,3)∧σ.env 5=uL .own y_15∧σ.env 35=uL .bor y_15∧σ.env 36=uI (y_15.length:Int)∧σ.env 37=uI s_18∧σ.mem (1,3)=some [cL .shr h_.vars,cL .shr h_.next])∧NoBox [(1,3)] σ.mem
      obtain ⟨X_21,X_21_⟩:=exV fun (r_32:(Unit) ⊕ (Unit)) (out:Out)=>Sum.elim (fun r_32=>∃ σ:St,out=.ret σ∧(σ.env 4=uB false∧σ.mem (1,3)=some [cL .shr h_.vars,cL .shr h_.next])∧NoBox [(1,3)] σ.mem) (fun r_32=>∃ σ:St,out=.exit 0 σ∧(σ.env 3=uP (1,3)∧σ.env 5=uL .own y_15∧σ.mem (1,3)=some [cL .shr h_.vars,cL .shr h_.next])∧NoBox [(1,3)] σ.mem) r_32
      refine loopP ({ hd:=[3,5,35,36,37],bx:=[],ex:=[3,5],rt:=[4] }) I_20 X_21 h_33 (by exact rfl) ?_ ?_ ?_
      ·rw [I_20_]
       exact ⟨by simp [zac,zaa,h_4,h_5,h_6,h_10,h_14],NoBox.restrict (by intro k hk hb;simp at hk hb;simp [hk,hb,h_4,h_5,h_6,h_10,h_14])⟩
      ·intro s_18 σ_22 a_19 hI hp
       rw [I_20_] at hI
       obtain ⟨q_24,hn_23⟩:=hI
       try simp [h_4,h_5,h_6,h_10,h_14,q_24]
       rcases zad hp with ⟨h_25,hp⟩|⟨h_25,hp⟩
       ·try simp at h_25
        obtain ⟨e_26,h_27,hp⟩:=zab hp
        have b_28:=at_lo h_27
        have b_29:=at_hi h_27
        try simp at b_28 b_29
        have c_30:=seg_at' h_27 0 1 (by decide) (ds:=[.sc (.int .i64 e_26)]) rfl
        try simp at c_30
        try simp [h_4,h_5,h_6,h_10,h_14,q_24,h_25,b_28,b_29,c_30]
        rcases zad hp with ⟨h_31,hp⟩|⟨h_31,hp⟩
        ·try simp at h_31
         cases hp
         try simp [h_4,h_5,h_6,h_10,h_14,q_24,h_25,h_31]
         refine zao ?_
         rw [X_21_]
         exact ⟨_,rfl,by simp [zac,zaa,h_4,h_5,h_6,h_10,h_14,q_24,h_25,h_31],NoBox.restrict (by intro k hk hb;simp at hk hb;simp [hk,hb,h_4,h_5,h_6,h_10,h_14,q_24,h_25,h_31,hn_23 k (by simp [hk,hb])])⟩
        ·try simp at h_31
         cases hp
         try simp [h_4,h_5,h_6,h_10,h_14,q_24,h_25,h_31]
         refine zah ?_
         rw [I_20_]
         exact ⟨by simp [zac,zaa,h_4,h_5,h_6,h_10,h_14,q_24,h_25,h_31],NoBox.restrict (by intro k hk hb;simp at hk hb;simp [hk,hb,h_4,h_5,h_6,h_10,h_14,q_24,h_25,h_31,hn_23 k (by simp [hk,hb])])⟩
       ·try simp at h_25
        cases hp
        try simp [h_4,h_5,h_6,h_10,h_14,q_24,h_25]
        refine zal ?_
        rw [X_21_]
        exact ⟨_,rfl,by simp [zac,zaa,h_4,h_5,h_6,h_10,h_14,q_24,h_25],NoBox.restrict (by intro k hk hb;simp at hk hb;simp [hk,hb,h_4,h_5,h_6,h_10,h_14,q_24,h_25,hn_23 k (by simp [hk,hb])])⟩
      ·intro out hX
       rw [X_21_] at hX
       rcases r_32 with r_32 | r_32
       ·simp only [Sum.elim_inl,Sum.elim_inr] at hX hp
        obtain ⟨σ_34,rfl,q_36,hn_35⟩:=hX
        cases hp
        simp [Goal,FnEnd,h_4,h_5,h_6,h_10,h_14,q_36]
       ·simp only [Sum.elim_inl,Sum.elim_inr] at hX hp
        obtain ⟨σ_37,rfl,q_39,hn_38⟩:=hX
        cases hp
        simp [Goal,FnEnd,h_4,h_5,h_6,h_10,h_14,q_39]
    ·try simp at h_10
     cases hp
     simp [Goal,FnEnd,h_4,h_5,h_6,h_10]
 ·try simp at h_4
  cases hp
  simp [Goal,FnEnd,h_4]
theorem pc54:PC Tryz.prog 54 C54:=pc_of (g:=g54) (zaj _ g54_s.2.1 ⟨pc56,pc94,pc95,pc96,trivial⟩) (ent Tryz.func54) fun x y h=>w54 h

def C158:List AV→Option AV:=specP (X:=(List Int) × (List Int) × Unit) fun x=>slices_Equal_int x.1 x.2.1
theorem C158_eq {s1 s2} {y} (h:slices_Equal_int s1 s2=some y):C158 [av .shr s1,av .shr s2]=some (Res.res y):=zai (x:=(s1,s2,())) h
def g158:Cfg:={ P:=Tryz.prog,take:=[],keep:=[((158,4),{ hd:=[0,1,12,13],bx:=[],ex:=[],rt:=[4] })],gho:=[],ctx:=[] }
@[simp] theorem g158_s:type_of% (cfg_s (g:=g158) rfl):=cfg_s rfl
theorem w158 {s1 s2} {y} (hp:slices_Equal_int s1 s2=some y):∃ m,callo g158 0 158 [av .shr s1,av .shr s2] mem0=some (Res.res y,m):=by
 refine st0 [.tmp 4] Tryz.func158 ?_
 unfold slices_Equal_int at hp
 simp [Tryz.f158]
 rcases zad hp with ⟨h_1,hp⟩|⟨h_1,hp⟩
 ·try simp at h_1
  cases hp
  simp [Goal,FnEnd,h_1]
 ·try simp at h_1
  try simp [h_1]
  obtain ⟨r_21,h_22,hp⟩:=zab hp
  obtain ⟨I_4,I_4_⟩:=exV fun (s_2:Int) (σ:St)=>(σ.env 0=uL .shr s1∧σ.env 1=uL .shr s2∧σ.env 12=uI (s1.length:Int)∧σ.env 13=uI s_2)∧σ.mem=mem0
  obtain ⟨X_5,X_5_⟩:=exV fun (r_21:(Unit) ⊕ (Unit)) (out:Out)=>Sum.elim (fun r_21=>∃ σ:St,out=.ret σ∧σ.env 4=uB false∧σ.mem=mem0) (fun r_21=>∃ σ:St,out=.exit 0 σ∧σ.mem=mem0) r_21
  refine loopP ({ hd:=[0,1,12,13],bx:=[],ex:=[],rt:=[4] }) I_4 X_5 h_22 (by exact rfl) ?_ ?_ ?_
  ·rw [I_4_]
   exact ⟨by simp [zac,zaa,h_1],by simp [zaa,h_1]⟩
  ·intro s_2 σ_6 a_3 hI hp
   rw [I_4_] at hI
   obtain ⟨q_8,q_7⟩:=hI
   try simp [h_1,q_8,q_7]
   rcases zad hp with ⟨h_9,hp⟩|⟨h_9,hp⟩
   ·try simp at h_9
    obtain ⟨e_10,h_11,hp⟩:=zab hp
    have b_12:=at_lo h_11
    have b_13:=at_hi h_11
    try simp at b_12 b_13
    have c_14:=seg_at' h_11 0 1 (by decide) (ds:=[.sc (.int .i64 e_10)]) rfl
    try simp at c_14
    obtain ⟨e_15,h_16,hp⟩:=zab hp
    have b_17:=at_lo h_16
    have b_18:=at_hi h_16
    try simp at b_17 b_18
    have c_19:=seg_at' h_16 0 1 (by decide) (ds:=[.sc (.int .i64 e_15)]) rfl
    try simp at c_19
    try simp [h_1,q_8,q_7,h_9,b_12,b_13,c_14,b_17,b_18,c_19]
    rcases zad hp with ⟨h_20,hp⟩|⟨h_20,hp⟩
    ·try simp at h_20
     cases hp
     try simp [h_1,q_8,q_7,h_9,h_20]
     refine zao ?_
     rw [X_5_]
     exact ⟨_,rfl,by simp [zac,zaa,h_1,q_8,q_7,h_9,h_20],by simp [zaa,h_1,q_8,q_7,h_9,h_20]⟩
    ·try simp at h_20
     cases hp
     try simp [h_1,q_8,q_7,h_9,h_20]
     refine zah ?_
     rw [I_4_]
     exact ⟨by simp [zac,zaa,h_1,q_8,q_7,h_9,h_20],by simp [zaa,h_1,q_8,q_7,h_9,h_20]⟩
   ·try simp at h_9
    cases hp
    try simp [h_1,q_8,q_7,h_9]
    refine zal ?_
    rw [X_5_]
    exact ⟨_,rfl,by simp [zaa,h_1,q_8,q_7,h_9]⟩
  ·intro out hX
   rw [X_5_] at hX
   rcases r_21 with r_21 | r_21
   ·simp only [Sum.elim_inl,Sum.elim_inr] at hX hp
    obtain ⟨σ_23,rfl,q_25,q_24⟩:=hX
    cases hp
    simp [Goal,FnEnd,h_1,q_25,q_24]
   ·simp only [Sum.elim_inl,Sum.elim_inr] at hX hp
    obtain ⟨σ_26,rfl,q_27⟩:=hX
    cases hp
    simp [Goal,FnEnd,h_1,q_27]
theorem pc158:PC Tryz.prog 158 C158:=pc_of (g:=g158) (zaj [] rfl trivial) (ent Tryz.func158) fun x y h=>w158 h

def C149:List AV→Option AV:=specP (X:=THeap × THeap × Unit) fun x=>impl_EqualHeap x.1 x.2.1
theorem C149_eq {a_ b_} {y} (h:impl_EqualHeap a_ b_=some y):C149 [av .shr a_,av .shr b_]=some (Res.res y):=zai (x:=(a_,b_,())) h
def g149:Cfg:={ P:=Tryz.prog,take:=[],keep:=[],gho:=[],ctx:=[(158,C158)] }
@[simp] theorem g149_s:type_of% (cfg_s (g:=g149) rfl):=cfg_s rfl
theorem w149 {a_ b_} {y} (hp:impl_EqualHeap a_ b_=some y):∃ m,callo g149 0 149 [av .shr a_,av .shr b_] mem0=some (Res.res y,m):=by
 refine st0 [.tmp 4] Tryz.func149 ?_
 unfold impl_EqualHeap at hp
 obtain ⟨y_1,h_2,hp⟩:=zab hp
 have c_3:=C158_eq h_2
 simp at c_3
 simp [Tryz.f149,c_3]
 rcases zad hp with ⟨h_4,hp⟩|⟨h_4,hp⟩
 ·try simp at h_4
  obtain ⟨y_5,h_6,hp⟩:=zab hp
  have c_7:=C158_eq h_6
  simp at c_7
  cases hp
  simp [Goal,FnEnd,h_4,c_7]
 ·try simp at h_4
  cases hp
  simp [Goal,FnEnd,h_4]
theorem pc149:PC Tryz.prog 149 C149:=pc_of (g:=g149) (zaj _ g149_s.2.1 ⟨pc158,trivial⟩) (ent Tryz.func149) fun x y h=>w149 h

def C120:List AV→Option AV:=specP (X:=TState × TState × Unit) fun x=>impl_EqualState x.1 x.2.1
theorem C120_eq {a_ b_} {y} (h:impl_EqualState a_ b_=some y):C120 [av .shr a_,av .shr b_]=some (Res.res y):=zai (x:=(a_,b_,())) h
def g120:Cfg:={ P:=Tryz.prog,take:=[],keep:=[],gho:=[],ctx:=[(149,C149)] }
@[simp] theorem g120_s:type_of% (cfg_s (g:=g120) rfl):=cfg_s rfl
theorem w120 {a_ b_} {y} (hp:impl_EqualState a_ b_=some y):∃ m,callo g120 0 120 [av .shr a_,av .shr b_] mem0=some (Res.res y,m):=by
 refine st0 [.tmp 4] Tryz.func120 ?_
 unfold impl_EqualState at hp
 simp [Tryz.f120]
 rcases zad hp with ⟨h_1,hp⟩|⟨h_1,hp⟩
 ·try simp at h_1
  obtain ⟨y_2,h_3,hp⟩:=zab hp
  have c_4:=C149_eq h_3
  simp at c_4
  cases hp
  simp [Goal,FnEnd,h_1,c_4]
 ·try simp at h_1
  cases hp
  simp [Goal,FnEnd,h_1]
theorem pc120:PC Tryz.prog 120 C120:=pc_of (g:=g120) (zaj _ g120_s.2.1 ⟨pc149,trivial⟩) (ent Tryz.func120) fun x y h=>w120 h

def C55:List AV→Option AV:=specP (X:=THeap × Unit) fun x=>impl_Heap_own x.1
theorem C55_eq {h_} {y} (h:impl_Heap_own h_=some y):C55 [av .shr h_]=some (Res.res y):=zai (x:=(h_,())) h
def g55:Cfg:={ P:=Tryz.prog,take:=[],keep:=[],gho:=[],ctx:=[(97,C97)] }
@[simp] theorem g55_s:type_of% (cfg_s (g:=g55) rfl):=cfg_s rfl
theorem w55 {h_} {y} (hp:impl_Heap_own h_=some y):∃ m,callo g55 0 55 [av .shr h_] mem0=some (Res.res y,m):=by
 refine st0 [.cell 2 31] Tryz.func55 ?_
 unfold impl_Heap_own at hp
 obtain ⟨y_1,h_2,hp⟩:=zab hp
 have c_3:=C97_eq h_2
 simp at c_3
 obtain ⟨y_4,h_5,hp⟩:=zab hp
 have c_6:=C97_eq h_5
 simp at c_6
 cases hp
 simp [Tryz.f55,Goal,FnEnd,retR,rsrc,RSrc.val,nodupR,nodup,tupPart,c_3,c_6]
theorem pc55:PC Tryz.prog 55 C55:=pc_of (g:=g55) (zaj _ g55_s.2.1 ⟨pc97,trivial⟩) (ent Tryz.func55) fun x y h=>w55 h

def C111:List AV→Option AV:=specP (X:=TProgram × Int × Unit) fun x=>impl_EdgesFrom x.1 x.2.1
theorem C111_eq {p_ point} {y} (h:impl_EdgesFrom p_ point=some y):C111 [av .shr p_,av .shr point]=some (Res.res y):=zai (x:=(p_,point,())) h
def g111:Cfg:={ P:=Tryz.prog,take:=[(111,21),(111,26)],keep:=[((111,3),{ hd:=[1,5,10,11,12],bx:=[7],ex:=[5],rt:=[4] })],gho:=[],ctx:=[] }
@[simp] theorem g111_s:type_of% (cfg_s (g:=g111) rfl):=cfg_s rfl
theorem w111 {p_ point} {y} (hp:impl_EdgesFrom p_ point=some y):∃ m,callo g111 0 111 [av .shr p_,av .shr point] mem0=some (Res.res y,m):=by
 refine st0 [.tmp 4] Tryz.func111 ?_
 unfold impl_EdgesFrom at hp
 simp [Tryz.f111]
 obtain ⟨r_18,h_19,hp⟩:=zab hp
 obtain ⟨I_3,I_3_⟩:=exV fun (s_1:(List Int) × Int) (σ:St)=>(σ.env 1=uI point∧σ.env 5=uL .own s_1.1∧σ.env 10=uL .shr p_.edges∧σ.env 11=uI (p_.edges.length:Int)∧σ.env 12=uI s_1.2∧σ.mem (1,2)=some [cL .shr p_.vars,cI p_.points,cL .shr p_.edges])∧NoBox [(1,2)] σ.mem
 obtain ⟨X_4,X_4_⟩:=exV fun (r_18:(List Int)) (out:Out)=>∃ σ:St,out=.exit 0 σ∧(σ.env 5=uL .own r_18∧σ.mem (1,2)=some [cL .shr p_.vars,cI p_.points,cL .shr p_.edges])∧NoBox [(1,2)] σ.mem
 refine loopP ({ hd:=[1,5,10,11,12],bx:=[7],ex:=[5],rt:=[4] }) I_3 X_4 h_19 (by exact rfl) ?_ ?_ ?_
 ·rw [I_3_]
  exact ⟨by simp [zac,zaa],NoBox.restrict (by intro k hk hb;simp at hk hb;simp [hk,hb])⟩
 ·intro s_1 σ_5 a_2 hI hp
  rw [I_3_] at hI
  obtain ⟨q_7,hn_6⟩:=hI
  try simp [q_7]
  rcases zad hp with ⟨h_8,hp⟩|⟨h_8,hp⟩
  ·try simp at h_8
   obtain ⟨e_9,h_10,hp⟩:=zab hp
   have b_11:=at_lo h_10
   have b_12:=at_hi h_10
   try simp at b_11 b_12
   have c_13:=seg_at' h_10 0 5 (by decide) (ds:=[.sc (.int .i64 e_9.from_),.sc (.int .i64 e_9.to_),.sc (.int .i64 e_9.stmt.kind),.sc (.string e_9.stmt.a),.sc (.string e_9.stmt.b)]) rfl
   try simp at c_13
   have n_14:=hn_6 (1,7) (by simp)
   try simp [q_7,h_8,b_11,b_12,c_13,n_14]
   rcases zad hp with ⟨h_15,hp⟩|⟨h_15,hp⟩
   ·try simp at h_15
    obtain ⟨_,h_16,hp⟩:=zab hp
    have b_17:=room_ok h_16
    try simp at b_17
    cases hp
    try simp [q_7,h_8,h_15,b_17]
    refine zah ?_
    rw [I_3_]
    exact ⟨by simp [zac,zaa,q_7,h_8,h_15,b_17],NoBox.restrict (by intro k hk hb;simp at hk hb;simp [hk,hb,q_7,h_8,h_15,b_17,hn_6 k (by simp [hk,hb])])⟩
   ·try simp at h_15
    cases hp
    try simp [q_7,h_8,h_15]
    refine zah ?_
    rw [I_3_]
    exact ⟨by simp [zac,zaa,q_7,h_8,h_15],NoBox.restrict (by intro k hk hb;simp at hk hb;simp [hk,hb,q_7,h_8,h_15,hn_6 k (by simp [hk,hb])])⟩
  ·try simp at h_8
   cases hp
   try simp [q_7,h_8]
   refine zal ?_
   rw [X_4_]
   exact ⟨_,rfl,by simp [zac,zaa,q_7,h_8],NoBox.restrict (by intro k hk hb;simp at hk hb;simp [hk,hb,q_7,h_8,hn_6 k (by simp [hk,hb])])⟩
 ·intro out hX
  rw [X_4_] at hX
  obtain ⟨σ_20,rfl,q_22,hn_21⟩:=hX
  cases hp
  simp [Goal,FnEnd,q_22]
theorem pc111:PC Tryz.prog 111 C111:=pc_of (g:=g111) (zaj [] rfl trivial) (ent Tryz.func111) fun x y h=>w111 h

def C99:List AV→Option AV:=specP (X:=THeap × (List ByteArray) × ByteArray × Unit) fun x=>impl_Heap_at x.1 x.2.1 x.2.2.1
theorem C99_eq {h_ vars name} {y} (h:impl_Heap_at h_ vars name=some y):C99 [av .shr h_,av .shr vars,av .shr name]=some (Res.res y):=zai (x:=(h_,vars,name,())) h
def g99:Cfg:={ P:=Tryz.prog,take:=[],keep:=[],gho:=[],ctx:=[(98,C98)] }
@[simp] theorem g99_s:type_of% (cfg_s (g:=g99) rfl):=cfg_s rfl
theorem w99 {h_ vars name} {y} (hp:impl_Heap_at h_ vars name=some y):∃ m,callo g99 0 99 [av .shr h_,av .shr vars,av .shr name] mem0=some (Res.res y,m):=by
 refine st0 [.tmp 6] Tryz.func99 ?_
 unfold impl_Heap_at at hp
 obtain ⟨y_1,h_2,hp⟩:=zab hp
 have c_3:=C98_eq h_2
 simp at c_3
 simp [Tryz.f99,c_3]
 rcases zad hp with ⟨h_4,hp⟩|⟨h_4,hp⟩
 ·try simp at h_4
  obtain ⟨e_5,h_6,hp⟩:=zab hp
  have b_7:=at_lo h_6
  have b_8:=at_hi h_6
  try simp at b_7 b_8
  have c_9:=seg_at' h_6 0 1 (by decide) (ds:=[.sc (.int .i64 e_5)]) rfl
  try simp at c_9
  cases hp
  simp [Goal,FnEnd,h_4,b_7,b_8,c_9]
 ·try simp at h_4
  cases hp
  simp [Goal,FnEnd,h_4]
theorem pc99:PC Tryz.prog 99 C99:=pc_of (g:=g99) (zaj _ g99_s.2.1 ⟨pc98,trivial⟩) (ent Tryz.func99) fun x y h=>w99 h

def C100:List AV→Option AV:=specP (X:=Int × Int × Int × Unit) fun x=>impl_needs x.1 x.2.1 x.2.2.1
theorem C100_eq {kind a_ b_} {y} (h:impl_needs kind a_ b_=some y):C100 [av .shr kind,av .shr a_,av .shr b_]=some (Res.res y):=zai (x:=(kind,a_,b_,())) h
def g100:Cfg:={ P:=Tryz.prog,take:=[],keep:=[],gho:=[],ctx:=[] }
@[simp] theorem g100_s:type_of% (cfg_s (g:=g100) rfl):=cfg_s rfl
theorem w100 {kind a_ b_} {y} (hp:impl_needs kind a_ b_=some y):∃ m,callo g100 0 100 [av .shr kind,av .shr a_,av .shr b_] mem0=some (Res.res y,m):=by
 refine st0 [.tmp 6,.tmp 7] Tryz.func100 ?_
 unfold impl_needs at hp
 simp [Tryz.f100]
 rcases zad hp with ⟨h_1,hp⟩|⟨h_1,hp⟩
 ·try simp at h_1
  cases hp
  simp [Goal,FnEnd,retR,rsrc,RSrc.val,nodupR,nodup,tupPart,h_1]
 ·try simp at h_1
  try simp [h_1]
  rcases zad hp with ⟨h_2,hp⟩|⟨h_2,hp⟩
  ·try simp at h_2
   cases hp
   simp [Goal,FnEnd,retR,rsrc,RSrc.val,nodupR,nodup,tupPart,h_1,h_2]
  ·try simp at h_2
   try simp [h_1,h_2]
   rcases zad hp with ⟨h_3,hp⟩|⟨h_3,hp⟩
   ·try simp at h_3
    cases hp
    simp [Goal,FnEnd,retR,rsrc,RSrc.val,nodupR,nodup,tupPart,h_1,h_2,h_3]
   ·try simp at h_3
    try simp [h_1,h_2,h_3]
    rcases zad hp with ⟨h_4,hp⟩|⟨h_4,hp⟩
    ·try simp at h_4
     cases hp
     simp [Goal,FnEnd,retR,rsrc,RSrc.val,nodupR,nodup,tupPart,h_1,h_2,h_3,h_4]
    ·try simp at h_4
     cases hp
     simp [Goal,FnEnd,retR,rsrc,RSrc.val,nodupR,nodup,tupPart,h_1,h_2,h_3,h_4]
theorem pc100:PC Tryz.prog 100 C100:=pc_of (g:=g100) (zaj [] rfl trivial) (ent Tryz.func100) fun x y h=>w100 h

def C101:List AV→Option AV:=specP (X:=TStmt × Unit) fun x=>impl_IsTest x.1
theorem C101_eq {s} {y} (h:impl_IsTest s=some y):C101 [av .shr s]=some (Res.res y):=zai (x:=(s,())) h
def g101:Cfg:={ P:=Tryz.prog,take:=[],keep:=[],gho:=[],ctx:=[(56,C56)] }
@[simp] theorem g101_s:type_of% (cfg_s (g:=g101) rfl):=cfg_s rfl
theorem w101 {s} {y} (hp:impl_IsTest s=some y):∃ m,callo g101 0 101 [av .shr s] mem0=some (Res.res y,m):=by
 refine st0 [.tmp 2] Tryz.func101 ?_
 unfold impl_IsTest at hp
 obtain ⟨y_1,h_2,hp⟩:=zab hp
 have c_3:=C56_eq h_2
 simp at c_3
 cases hp
 simp [Tryz.f101,Goal,FnEnd,c_3]
theorem pc101:PC Tryz.prog 101 C101:=pc_of (g:=g101) (zaj _ g101_s.2.1 ⟨pc56,trivial⟩) (ent Tryz.func101) fun x y h=>w101 h

def C102:List AV→Option AV:=specP (X:=Int × Int × Int × Unit) fun x=>impl_holds x.1 x.2.1 x.2.2.1
theorem C102_eq {kind a_ b_} {y} (h:impl_holds kind a_ b_=some y):C102 [av .shr kind,av .shr a_,av .shr b_]=some (Res.res y):=zai (x:=(kind,a_,b_,())) h
def g102:Cfg:={ P:=Tryz.prog,take:=[],keep:=[],gho:=[],ctx:=[] }
@[simp] theorem g102_s:type_of% (cfg_s (g:=g102) rfl):=cfg_s rfl
theorem w102 {kind a_ b_} {y} (hp:impl_holds kind a_ b_=some y):∃ m,callo g102 0 102 [av .shr kind,av .shr a_,av .shr b_] mem0=some (Res.res y,m):=by
 refine st0 [.tmp 6] Tryz.func102 ?_
 unfold impl_holds at hp
 simp [Tryz.f102]
 rcases zad hp with ⟨h_1,hp⟩|⟨h_1,hp⟩
 ·try simp at h_1
  cases hp
  simp [Goal,FnEnd,h_1]
 ·try simp at h_1
  try simp [h_1]
  rcases zad hp with ⟨h_2,hp⟩|⟨h_2,hp⟩
  ·try simp at h_2
   cases hp
   simp [Goal,FnEnd,h_1,h_2]
  ·try simp at h_2
   try simp [h_1,h_2]
   rcases zad hp with ⟨h_3,hp⟩|⟨h_3,hp⟩
   ·try simp at h_3
    cases hp
    simp [Goal,FnEnd,h_1,h_2,h_3]
   ·try simp at h_3
    cases hp
    simp [Goal,FnEnd,h_1,h_2,h_3]
theorem pc102:PC Tryz.prog 102 C102:=pc_of (g:=g102) (zaj [] rfl trivial) (ent Tryz.func102) fun x y h=>w102 h

def C103:List AV→Option AV:=specP (X:=(List Int) × Int × Unit) fun x=>impl_Positions x.1 x.2.1
theorem C103_eq {list n_} {y} (h:impl_Positions list n_=some y):C103 [av .shr list,av .shr n_]=some (Res.res y):=zai (x:=(list,n_,())) h
def g103:Cfg:={ P:=Tryz.prog,take:=[(103,19),(103,24)],keep:=[((103,3),{ hd:=[1,5,9,10,11],bx:=[],ex:=[5],rt:=[4] })],gho:=[],ctx:=[] }
@[simp] theorem g103_s:type_of% (cfg_s (g:=g103) rfl):=cfg_s rfl
theorem w103 {list n_} {y} (hp:impl_Positions list n_=some y):∃ m,callo g103 0 103 [av .shr list,av .shr n_] mem0=some (Res.res y,m):=by
 refine st0 [.tmp 4] Tryz.func103 ?_
 unfold impl_Positions at hp
 simp [Tryz.f103]
 obtain ⟨r_17,h_18,hp⟩:=zab hp
 obtain ⟨I_3,I_3_⟩:=exV fun (s_1:(List Int) × Int) (σ:St)=>(σ.env 1=uI n_∧σ.env 5=uL .own s_1.1∧σ.env 9=uL .shr list∧σ.env 10=uI (list.length:Int)∧σ.env 11=uI s_1.2)∧σ.mem=mem0
 obtain ⟨X_4,X_4_⟩:=exV fun (r_17:(List Int)) (out:Out)=>∃ σ:St,out=.exit 0 σ∧σ.env 5=uL .own r_17∧σ.mem=mem0
 refine loopP ({ hd:=[1,5,9,10,11],bx:=[],ex:=[5],rt:=[4] }) I_3 X_4 h_18 (by exact rfl) ?_ ?_ ?_
 ·rw [I_3_]
  exact ⟨by simp [zac,zaa],by simp [zaa]⟩
 ·intro s_1 σ_5 a_2 hI hp
  rw [I_3_] at hI
  obtain ⟨q_7,q_6⟩:=hI
  try simp [q_7,q_6]
  rcases zad hp with ⟨h_8,hp⟩|⟨h_8,hp⟩
  ·try simp at h_8
   obtain ⟨e_9,h_10,hp⟩:=zab hp
   have b_11:=at_lo h_10
   have b_12:=at_hi h_10
   try simp at b_11 b_12
   have c_13:=seg_at' h_10 0 1 (by decide) (ds:=[.sc (.int .i64 e_9)]) rfl
   try simp at c_13
   try simp [q_7,q_6,h_8,b_11,b_12,c_13]
   rcases zad hp with ⟨h_14,hp⟩|⟨h_14,hp⟩
   ·try simp at h_14
    obtain ⟨_,h_15,hp⟩:=zab hp
    have b_16:=room_ok h_15
    try simp at b_16
    cases hp
    try simp [q_7,q_6,h_8,h_14,b_16]
    refine zah ?_
    rw [I_3_]
    exact ⟨by simp [zac,zaa,q_7,q_6,h_8,h_14,b_16],by simp [zaa,q_7,q_6,h_8,h_14,b_16]⟩
   ·try simp at h_14
    cases hp
    try simp [q_7,q_6,h_8,h_14]
    refine zah ?_
    rw [I_3_]
    exact ⟨by simp [zac,zaa,q_7,q_6,h_8,h_14],by simp [zaa,q_7,q_6,h_8,h_14]⟩
  ·try simp at h_8
   cases hp
   try simp [q_7,q_6,h_8]
   refine zal ?_
   rw [X_4_]
   exact ⟨_,rfl,by simp [zac,zaa,q_7,q_6,h_8],by simp [zaa,q_7,q_6,h_8]⟩
 ·intro out hX
  rw [X_4_] at hX
  obtain ⟨σ_19,rfl,q_21,q_20⟩:=hX
  cases hp
  simp [Goal,FnEnd,q_21,q_20]
theorem pc103:PC Tryz.prog 103 C103:=pc_of (g:=g103) (zaj [] rfl trivial) (ent Tryz.func103) fun x y h=>w103 h

abbrev G106 (g:Cfg):Prop:=Has Tryz.prog g 106 Tryz.f106 [37,78,81] [] [(97,C97)] [(4,[.thaw (.at 11 0) 1176 1]),(6,[.thaw (.at 11 0) 1176 1]),(9,[.thaw (.at 11 0) 1176 1]),(11,[.thaw (.at 11 0) 1176 1]),(13,[.thaw (.at 11 1) 1177 1]),(15,[.thaw (.at 11 1) 1177 1]),(17,[.thaw (.at 11 0) 1176 1]),(2000004,[.frz (.at 11 0)]),(2000006,[.frz (.at 11 0)]),(2000009,[.frz (.at 11 0)]),(2000011,[.frz (.at 11 0)]),(2000013,[.frz (.at 11 1)]),(2000015,[.frz (.at 11 1)]),(2000017,[.frz (.at 11 0)])] [80] [(143,some C143)]
theorem wI106 {g:Cfg} (G:G106 g) {d:Nat} {mem:Mem} (hT:Tight d mem) (hB:∀ x,(mem x).map (List.map C.killB)=mem x)  {h_:THeap} {s:TStmt} {own:Int} {a_:Int} {b_:Int}  {y} (hp:zap h_ s own a_ b_=some y):∃ r,callo g d 106 [av .shr h_,av .shr s,av .shr own,av .shr a_,av .shr b_] mem=some (r,mem)∧∃ me_0:Md,r=av me_0 y:=by
 have gP:=G.P;have gt:=G.tk;have gr:=G.ro;have gg:=G.gh
 have o_143:=G.oc (143,some C143) (by simp)
 have c_97:=G.cs (97,C97) (by simp)
 have hT2:memKill (fun k=>decide (d < k.1)) mem=mem:=hT
 have hm0:∀ t,mem (d+1,t)=none:=fun t=>hT.none (by simp)
 refine start_ex (Tryz.f106.body.getD .skip) [.cell 10 31] G Tryz.func106 (by kernel_rfl) (by simp [Tryz.ntmps106]) rfl ?_
 unfold zap at hp
 obtain ⟨y_1,h_2,hp⟩:=zab hp
 have c_3:=C97_eq h_2
 simp at c_3
 obtain ⟨y_4,h_5,hp⟩:=zab hp
 have c_6:=C97_eq h_5
 simp at c_6
 simp [Tryz.f106,gP,gt,gr,gg,hm0,c_97,o_143,hB,c_3,c_6]
 rcases zad hp with ⟨h_7,hp⟩|⟨h_7,hp⟩
 ·try simp at h_7
  try simp [gP,gt,gr,gg,hm0,c_97,o_143,hB,h_7]
  obtain ⟨e_8,h_9,hp⟩:=zab hp
  have b_10:=at_lo h_9
  have b_11:=at_hi h_9
  try simp at b_10 b_11
  have c_12:=splice_row h_9 0 (-1) [(cI (-1))] (by simp) rfl
  try simp at c_12
  have l_13:=row_room h_9 0 (m:=1) (by decide)
  try simp at l_13
  cases hp
  simp [Goal,FnEndE,memKill_hi,retR,rsrc,RSrc.val,nodupR,nodup,tupPart,gP,gt,gr,gg,hm0,c_97,o_143,hB,h_7,b_10,b_11,c_12,l_13,hT2]
  all_goals (refine ⟨_,⟨rfl,kill_back ?_ hT⟩,_,rfl⟩;repeat (first | exact fun k hk=>rfl | refine Agree.upd ?_ (by simp) | refine Agree.killK hT ?_ (by simp) | refine Agree.killB hB ?_ | refine Agree.mapK hT ?_ (by simp) | refine Agree.ite ?_ (by simp)))
 ·try simp at h_7
  try simp [gP,gt,gr,gg,hm0,c_97,o_143,hB,h_7]
  rcases zad hp with ⟨h_14,hp⟩|⟨h_14,hp⟩
  ·try simp at h_14
   try simp [gP,gt,gr,gg,hm0,c_97,o_143,hB,h_7,h_14]
   obtain ⟨e_15,h_16,hp⟩:=zab hp
   have b_17:=at_lo h_16
   have b_18:=at_hi h_16
   try simp at b_17 b_18
   have c_19:=splice_row h_16 0 (y_4.length:Int) [(cI (y_4.length:Int))] (by simp) rfl
   try simp at c_19
   have l_20:=row_room h_16 0 (m:=1) (by decide)
   try simp at l_20
   obtain ⟨_,h_21,hp⟩:=zab hp
   have b_22:=room_ok h_21
   try simp at b_22
   cases hp
   simp [Goal,FnEndE,memKill_hi,retR,rsrc,RSrc.val,nodupR,nodup,tupPart,gP,gt,gr,gg,hm0,c_97,o_143,hB,h_7,h_14,b_17,b_18,c_19,l_20,b_22,hT2]
   all_goals (refine ⟨_,⟨rfl,kill_back ?_ hT⟩,_,rfl⟩;repeat (first | exact fun k hk=>rfl | refine Agree.upd ?_ (by simp) | refine Agree.killK hT ?_ (by simp) | refine Agree.killB hB ?_ | refine Agree.mapK hT ?_ (by simp) | refine Agree.ite ?_ (by simp)))
  ·try simp at h_14
   try simp [gP,gt,gr,gg,hm0,c_97,o_143,hB,h_7,h_14]
   rcases zad hp with ⟨h_23,hp⟩|⟨h_23,hp⟩
   ·try simp at h_23
    try simp [gP,gt,gr,gg,hm0,c_97,o_143,hB,h_7,h_14,h_23]
    obtain ⟨e_24,h_25,hp⟩:=zab hp
    have b_26:=at_lo h_25
    have b_27:=at_hi h_25
    try simp at b_26 b_27
    have c_28:=splice_row h_25 0 b_ [(cI b_)] (by simp) rfl
    try simp at c_28
    have l_29:=row_room h_25 0 (m:=1) (by decide)
    try simp at l_29
    cases hp
    simp [Goal,FnEndE,memKill_hi,retR,rsrc,RSrc.val,nodupR,nodup,tupPart,gP,gt,gr,gg,hm0,c_97,o_143,hB,h_7,h_14,h_23,b_26,b_27,c_28,l_29,hT2]
    all_goals (refine ⟨_,⟨rfl,kill_back ?_ hT⟩,_,rfl⟩;repeat (first | exact fun k hk=>rfl | refine Agree.upd ?_ (by simp) | refine Agree.killK hT ?_ (by simp) | refine Agree.killB hB ?_ | refine Agree.mapK hT ?_ (by simp) | refine Agree.ite ?_ (by simp)))
   ·try simp at h_23
    try simp [gP,gt,gr,gg,hm0,c_97,o_143,hB,h_7,h_14,h_23]
    rcases zad hp with ⟨h_30,hp⟩|⟨h_30,hp⟩
    ·try simp at h_30
     try simp [gP,gt,gr,gg,hm0,c_97,o_143,hB,h_7,h_14,h_23,h_30]
     obtain ⟨e_31,h_32,hp⟩:=zab hp
     have b_33:=at_lo h_32
     have b_34:=at_hi h_32
     try simp at b_33 b_34
     have c_35:=seg_at' h_32 0 1 (by decide) (ds:=[.sc (.int .i64 e_31)]) rfl
     try simp at c_35
     obtain ⟨e_36,h_37,hp⟩:=zab hp
     have b_38:=at_lo h_37
     have b_39:=at_hi h_37
     try simp at b_38 b_39
     have c_40:=splice_row h_37 0 e_31 [(cI e_31)] (by simp) rfl
     try simp at c_40
     have l_41:=row_room h_37 0 (m:=1) (by decide)
     try simp at l_41
     cases hp
     simp [Goal,FnEndE,memKill_hi,retR,rsrc,RSrc.val,nodupR,nodup,tupPart,gP,gt,gr,gg,hm0,c_97,o_143,hB,h_7,h_14,h_23,h_30,b_33,b_34,c_35,b_38,b_39,c_40,l_41,hT2]
     all_goals (refine ⟨_,⟨rfl,kill_back ?_ hT⟩,_,rfl⟩;repeat (first | exact fun k hk=>rfl | refine Agree.upd ?_ (by simp) | refine Agree.killK hT ?_ (by simp) | refine Agree.killB hB ?_ | refine Agree.mapK hT ?_ (by simp) | refine Agree.ite ?_ (by simp)))
    ·try simp at h_30
     try simp [gP,gt,gr,gg,hm0,c_97,o_143,hB,h_7,h_14,h_23,h_30]
     rcases zad hp with ⟨h_42,hp⟩|⟨h_42,hp⟩
     ·try simp at h_42
      try simp [gP,gt,gr,gg,hm0,c_97,o_143,hB,h_7,h_14,h_23,h_30,h_42]
      obtain ⟨e_43,h_44,hp⟩:=zab hp
      have b_45:=at_lo h_44
      have b_46:=at_hi h_44
      try simp at b_45 b_46
      have c_47:=splice_row h_44 0 (-1) [(cI (-1))] (by simp) rfl
      try simp at c_47
      have l_48:=row_room h_44 0 (m:=1) (by decide)
      try simp at l_48
      cases hp
      simp [Goal,FnEndE,memKill_hi,retR,rsrc,RSrc.val,nodupR,nodup,tupPart,gP,gt,gr,gg,hm0,c_97,o_143,hB,h_7,h_14,h_23,h_30,h_42,b_45,b_46,c_47,l_48,hT2]
      all_goals (refine ⟨_,⟨rfl,kill_back ?_ hT⟩,_,rfl⟩;repeat (first | exact fun k hk=>rfl | refine Agree.upd ?_ (by simp) | refine Agree.killK hT ?_ (by simp) | refine Agree.killB hB ?_ | refine Agree.mapK hT ?_ (by simp) | refine Agree.ite ?_ (by simp)))
     ·try simp at h_42
      try simp [gP,gt,gr,gg,hm0,c_97,o_143,hB,h_7,h_14,h_23,h_30,h_42]
      rcases zad hp with ⟨h_49,hp⟩|⟨h_49,hp⟩
      ·try simp at h_49
       try simp [gP,gt,gr,gg,hm0,c_97,o_143,hB,h_7,h_14,h_23,h_30,h_42,h_49]
       obtain ⟨e_50,h_51,hp⟩:=zab hp
       have b_52:=at_lo h_51
       have b_53:=at_hi h_51
       try simp at b_52 b_53
       have c_54:=splice_row h_51 0 b_ [(cI b_)] (by simp) rfl
       try simp at c_54
       have l_55:=row_room h_51 0 (m:=1) (by decide)
       try simp at l_55
       cases hp
       simp [Goal,FnEndE,memKill_hi,retR,rsrc,RSrc.val,nodupR,nodup,tupPart,gP,gt,gr,gg,hm0,c_97,o_143,hB,h_7,h_14,h_23,h_30,h_42,h_49,b_52,b_53,c_54,l_55,hT2]
       all_goals (refine ⟨_,⟨rfl,kill_back ?_ hT⟩,_,rfl⟩;repeat (first | exact fun k hk=>rfl | refine Agree.upd ?_ (by simp) | refine Agree.killK hT ?_ (by simp) | refine Agree.killB hB ?_ | refine Agree.mapK hT ?_ (by simp) | refine Agree.ite ?_ (by simp)))
      ·try simp at h_49
       try simp [gP,gt,gr,gg,hm0,c_97,o_143,hB,h_7,h_14,h_23,h_30,h_42,h_49]
       rcases zad hp with ⟨h_56,hp⟩|⟨h_56,hp⟩
       ·try simp at h_56
        try simp [gP,gt,gr,gg,hm0,c_97,o_143,hB,h_7,h_14,h_23,h_30,h_42,h_49,h_56]
        obtain ⟨e_57,h_58,hp⟩:=zab hp
        have b_59:=at_lo h_58
        have b_60:=at_hi h_58
        try simp at b_59 b_60
        have c_61:=splice_row h_58 0 (-1) [(cI (-1))] (by simp) rfl
        try simp at c_61
        have l_62:=row_room h_58 0 (m:=1) (by decide)
        try simp at l_62
        obtain ⟨y_65,h_66,hp⟩:=zab hp
        have c_67:=C143_eq h_66
        simp at c_67
        cases hp
        simp [Goal,FnEndE,memKill_hi,retR,rsrc,RSrc.val,nodupR,nodup,tupPart,gP,gt,gr,gg,hm0,c_97,o_143,hB,h_7,h_14,h_23,h_30,h_42,h_49,h_56,b_59,b_60,c_61,l_62,c_67,hT2]
        all_goals (refine ⟨_,⟨rfl,kill_back ?_ hT⟩,_,rfl⟩;repeat (first | exact fun k hk=>rfl | refine Agree.upd ?_ (by simp) | refine Agree.killK hT ?_ (by simp) | refine Agree.killB hB ?_ | refine Agree.mapK hT ?_ (by simp) | refine Agree.ite ?_ (by simp)))
       ·try simp at h_56
        cases hp
        simp [Goal,FnEndE,memKill_hi,retR,rsrc,RSrc.val,nodupR,nodup,tupPart,gP,gt,gr,gg,hm0,c_97,o_143,hB,h_7,h_14,h_23,h_30,h_42,h_49,h_56,hT2]
        all_goals (refine ⟨_,⟨rfl,kill_back ?_ hT⟩,_,rfl⟩;repeat (first | exact fun k hk=>rfl | refine Agree.upd ?_ (by simp) | refine Agree.killK hT ?_ (by simp) | refine Agree.killB hB ?_ | refine Agree.mapK hT ?_ (by simp) | refine Agree.ite ?_ (by simp)))

def C107:List AV→Option AV:=specP (X:=THeap × Unit) fun x=>impl_HasLeak x.1
theorem C107_eq {h_} {y} (h:impl_HasLeak h_=some y):C107 [av .shr h_]=some (Res.res y):=zai (x:=(h_,())) h
def g107:Cfg:={ P:=Tryz.prog,take:=[],keep:=[],gho:=[],ctx:=[(96,C96)] }
@[simp] theorem g107_s:type_of% (cfg_s (g:=g107) rfl):=cfg_s rfl
theorem w107 {h_} {y} (hp:impl_HasLeak h_=some y):∃ m,callo g107 0 107 [av .shr h_] mem0=some (Res.res y,m):=by
 refine st0 [.tmp 2] Tryz.func107 ?_
 unfold impl_HasLeak at hp
 obtain ⟨y_1,h_2,hp⟩:=zab hp
 have c_3:=C96_eq h_2
 simp at c_3
 cases hp
 simp [Tryz.f107,Goal,FnEnd,c_3]
theorem pc107:PC Tryz.prog 107 C107:=pc_of (g:=g107) (zaj _ g107_s.2.1 ⟨pc96,trivial⟩) (ent Tryz.func107) fun x y h=>w107 h

abbrev G144 (g:Cfg):Prop:=Has Tryz.prog g 144 Tryz.f144 [] [] [(142,C142)] []
theorem wI144 {g:Cfg} (G:G144 g) {d:Nat} {mem:Mem} (hT:Tight d mem) {K_1:Key} {c:Int} {c0:(List Int)} {mk_1:Md} (hk_1:K_1.1≤d) (hb_1:mem K_1=some [cL mk_1 c0]) {y} (hp:impl_CanonHeap_1 c c0=some y):callo g d 144 [av .shr c,.one (.ptr K_1 0)] mem=some (Res.res y,mem):=by
 have gP:=G.P;have gt:=G.tk;have gr:=G.ro;have gg:=G.gh
 have c_142:=G.cs (142,C142) (by simp)
 have hT2:memKill (fun k=>decide (d < k.1)) mem=mem:=hT
 have nk_1:∀ t,(K_1=(d+1,t))=False:=fun t=>by simp;intro h;rw [h] at hk_1;simp at hk_1;omega
 refine start_in (Tryz.f144.body.getD .skip) [.tmp 3] G Tryz.func144 (by kernel_rfl) (by simp [Tryz.ntmps144]) rfl ?_
 unfold impl_CanonHeap_1 at hp
 obtain ⟨y_1,h_2,hp⟩:=zab hp
 have c_3:=C142_eq h_2
 simp at c_3
 cases hp
 simp [Tryz.f144,Goal,FnEndI,memKill_hi,gP,gt,gr,gg,c_142,hb_1,nk_1,c_3,hT2]

def C108:List AV→Option AV:=specP (X:=THeap × Unit) fun x=>impl_CanonHeap x.1
theorem C108_eq {h_} {y} (h:impl_CanonHeap h_=some y):C108 [av .shr h_]=some (Res.res y):=zai (x:=(h_,())) h
def g108:Cfg:={ P:=Tryz.prog,take:=[(108,26),(108,41),(108,53)],keep:=[((108,7),{ hd:=[1,2,3,4,5,19,20,21],bx:=[],ex:=[1,2,3,4,5],rt:=[2] }),((108,12),{ hd:=[1,2,4,5,34,35,36],bx:=[],ex:=[2,5],rt:=[2] })],gho:=[],ctx:=[(94,C94),(96,C96),(142,C142)],ro:=[(108,29),(108,48)] }
@[simp] theorem g108_s:type_of% (cfg_s (g:=g108) rfl):=cfg_s rfl
theorem w108 {h_} {y} (hp:impl_CanonHeap h_=some y):∃ m,callo g108 0 108 [av .shr h_] mem0=some (Res.res y,m):=by
 have G_144:G144 g108:=⟨rfl,by kernel_rfl,rfl,fun t=>by simp,noAway (fun t=>by simp) (by simp) (fun t=>by simp),by simp [lookN],fun i=>by simp [lookK],by simp [g108,lookK],by simp⟩
 refine st0 [.cell 2 31] Tryz.func108 ?_
 unfold impl_CanonHeap at hp
 obtain ⟨y_1,h_2,hp⟩:=zab hp
 have c_3:=C94_eq h_2
 simp at c_3
 simp [Tryz.f108,c_3]
 rcases zad hp with ⟨h_4,hp⟩|⟨h_4,hp⟩
 ·try simp at h_4
  obtain ⟨y_5,h_6,hp⟩:=zab hp
  have c_7:=C96_eq h_6
  simp at c_7
  try simp [h_4,c_7]
  obtain ⟨r_26,h_27,hp⟩:=zab hp
  obtain ⟨I_10,I_10_⟩:=exV fun (s_8:Int × (List Int)) (σ:St)=>(σ.env 1=uP (1,1)∧σ.env 2=uP (1,2)∧σ.env 3=uP (1,3)∧σ.env 4=.one (.fn 144 [((1,3),0)])∧σ.env 5=uP (1,5)∧σ.env 19=uL .shr h_.vars∧σ.env 20=uI (h_.vars.length:Int)∧σ.env 21=uI s_8.1∧σ.mem (1,1)=some [cL .shr h_.vars,cL .shr h_.next]∧σ.mem (1,2)=some [.l .own 0 [],.l .own 0 []]∧σ.mem (1,3)=some [cL .own y_5]∧σ.mem (1,5)=some [cL .own s_8.2,.l .own 0 []])∧Tight (1) σ.mem∧NoBox [(1,1),(1,2),(1,3),(1,5)] σ.mem
  obtain ⟨X_11,X_11_⟩:=exV fun (r_26:(List Int)) (out:Out)=>∃ σ:St,out=.exit 0 σ∧(σ.env 1=uP (1,1)∧σ.env 2=uP (1,2)∧σ.env 3=uP (1,3)∧σ.env 4=.one (.fn 144 [((1,3),0)])∧σ.env 5=uP (1,5)∧σ.mem (1,1)=some [cL .shr h_.vars,cL .shr h_.next]∧σ.mem (1,2)=some [.l .own 0 [],.l .own 0 []]∧σ.mem (1,3)=some [cL .own y_5]∧σ.mem (1,5)=some [cL .own r_26,.l .own 0 []])∧Tight (1) σ.mem∧NoBox [(1,1),(1,2),(1,3),(1,5)] σ.mem
  refine loopP ({ hd:=[1,2,3,4,5,19,20,21],bx:=[],ex:=[1,2,3,4,5],rt:=[2] }) I_10 X_11 h_27 (by exact rfl) ?_ ?_ ?_
  ·rw [I_10_]
   exact ⟨by simp [zac,zaa,h_4],(by repeat (first | exact zag _ | exact hT.up | exact hT | refine Tight.restrict ?_ | refine Tight.upd ?_ (by simp) (by simp) | refine Tight.killB ?_ | refine zak ?_)),NoBox.restrict (by intro k hk hb;simp at hk hb;simp [hk,hb,h_4])⟩
  ·intro s_8 σ_12 a_9 hI hp
   rw [I_10_] at hI
   obtain ⟨q_15,ht_13,hn_14⟩:=hI
   try simp [h_4,q_15]
   rcases zad hp with ⟨h_16,hp⟩|⟨h_16,hp⟩
   ·try simp at h_16
    obtain ⟨e_17,h_18,hp⟩:=zab hp
    have b_19:=at_lo h_18
    have b_20:=at_hi h_18
    try simp at b_19 b_20
    have c_21:=seg_at' h_18 0 1 (by decide) (ds:=[.sc (.int .i64 e_17)]) rfl
    try simp at c_21
    obtain ⟨y_22,h_23,hp⟩:=zab hp
    try simp [h_4,q_15,h_16,b_19,b_20,c_21]
    refine goal_callRo [av .shr e_17,.one (.ptr (1,3) 0)] (Res.res y_22) (by kernel_rfl) (by simp [h_4,q_15,h_16]) (wI144 (mk_1:=.own) G_144 (by repeat (first | exact ht_13 | exact zag _ | exact hT.up | exact hT | (simp only [q_15];done) | refine Tight.upd ?_ (by simp) (by simp) | refine Tight.killB ?_ | refine zak ?_)) (by simp) (by simp [h_4,q_15,h_16]) h_23) ?_
    obtain ⟨_,h_24,hp⟩:=zab hp
    have b_25:=room_ok h_24
    try simp at b_25
    cases hp
    try simp [h_4,q_15,h_16,b_25]
    refine zah ?_
    rw [I_10_]
    exact ⟨by simp [zac,zaa,h_4,q_15,h_16,b_25],(by repeat (first | exact ht_13 | exact zag _ | exact hT.up | exact hT | refine Tight.restrict ?_ | refine Tight.upd ?_ (by simp) (by simp) | refine Tight.killB ?_ | refine zak ?_)),NoBox.restrict (by intro k hk hb;simp at hk hb;simp [hk,hb,h_4,q_15,h_16,b_25,hn_14 k (by simp [hk,hb])])⟩
   ·try simp at h_16
    cases hp
    try simp [h_4,q_15,h_16]
    refine zal ?_
    rw [X_11_]
    exact ⟨_,rfl,by simp [zac,zaa,h_4,q_15,h_16],(by repeat (first | exact ht_13 | exact zag _ | exact hT.up | exact hT | refine Tight.restrict ?_ | refine Tight.upd ?_ (by simp) (by simp) | refine Tight.killB ?_ | refine zak ?_)),NoBox.restrict (by intro k hk hb;simp at hk hb;simp [hk,hb,h_4,q_15,h_16,hn_14 k (by simp [hk,hb])])⟩
  ·intro out hX
   rw [X_11_] at hX
   obtain ⟨σ_28,rfl,q_31,ht_29,hn_30⟩:=hX
   try simp [h_4,q_31]
   obtain ⟨r_55,h_56,hp⟩:=zab hp
   obtain ⟨I_34,I_34_⟩:=exV fun (s_32:Int × (List Int)) (σ:St)=>(σ.env 1=uP (1,1)∧σ.env 2=uP (1,2)∧σ.env 4=.one (.fn 144 [((1,3),0)])∧σ.env 5=uP (1,5)∧σ.env 34=uL .bor y_5∧σ.env 35=uI (y_5.length:Int)∧σ.env 36=uI s_32.1∧σ.mem (1,1)=some [cL .shr h_.vars,cL .shr h_.next]∧σ.mem (1,2)=some [.l .own 0 [],.l .own 0 []]∧σ.mem (1,3)=some [cL .own y_5]∧σ.mem (1,5)=some [cL .own r_26,cL .own s_32.2])∧Tight (1) σ.mem∧NoBox [(1,1),(1,2),(1,3),(1,5)] σ.mem
   obtain ⟨X_35,X_35_⟩:=exV fun (r_55:(List Int)) (out:Out)=>∃ σ:St,out=.exit 2 σ∧(σ.env 2=uP (1,2)∧σ.env 5=uP (1,5)∧σ.mem (1,1)=some [cL .shr h_.vars,cL .shr h_.next]∧σ.mem (1,2)=some [.l .own 0 [],.l .own 0 []]∧σ.mem (1,3)=some [cL .own y_5]∧σ.mem (1,5)=some [cL .own r_26,cL .own r_55])∧Tight (1) σ.mem∧NoBox [(1,1),(1,2),(1,3),(1,5)] σ.mem
   refine loopP ({ hd:=[1,2,4,5,34,35,36],bx:=[],ex:=[2,5],rt:=[2] }) I_34 X_35 h_56 (by exact rfl) ?_ ?_ ?_
   ·rw [I_34_]
    exact ⟨by simp [zac,zaa,h_4,q_31],(by repeat (first | exact ht_29 | exact zag _ | exact hT.up | exact hT | refine Tight.restrict ?_ | refine Tight.upd ?_ (by simp) (by simp) | refine Tight.killB ?_ | refine zak ?_)),NoBox.restrict (by intro k hk hb;simp at hk hb;simp [hk,hb,h_4,q_31,hn_30 k (by simp [hk,hb])])⟩
   ·intro s_32 σ_36 a_33 hI hp
    rw [I_34_] at hI
    obtain ⟨q_39,ht_37,hn_38⟩:=hI
    try simp [h_4,q_39]
    rcases zad hp with ⟨h_40,hp⟩|⟨h_40,hp⟩
    ·try simp at h_40
     obtain ⟨e_41,h_42,hp⟩:=zab hp
     have b_43:=at_lo h_42
     have b_44:=at_hi h_42
     try simp at b_43 b_44
     have c_45:=seg_at' h_42 0 1 (by decide) (ds:=[.sc (.int .i64 e_41)]) rfl
     try simp at c_45
     obtain ⟨e_46,h_47,hp⟩:=zab hp
     have b_48:=at_lo h_47
     have b_49:=at_hi h_47
     try simp at b_48 b_49
     have c_50:=seg_at' h_47 0 1 (by decide) (ds:=[.sc (.int .i64 e_46)]) rfl
     try simp at c_50
     obtain ⟨y_51,h_52,hp⟩:=zab hp
     try simp [h_4,q_39,h_40,b_43,b_44,c_45,b_48,b_49,c_50]
     refine goal_callRo [av .shr e_46,.one (.ptr (1,3) 0)] (Res.res y_51) (by kernel_rfl) (by simp [h_4,q_39,h_40]) (wI144 (mk_1:=.own) G_144 (by repeat (first | exact ht_37 | exact zag _ | exact hT.up | exact hT | (simp only [q_39];done) | refine Tight.upd ?_ (by simp) (by simp) | refine Tight.killB ?_ | refine zak ?_)) (by simp) (by simp [h_4,q_39,h_40]) h_52) ?_
     obtain ⟨_,h_53,hp⟩:=zab hp
     have b_54:=room_ok h_53
     try simp at b_54
     cases hp
     try simp [h_4,q_39,h_40,b_54]
     refine zah ?_
     rw [I_34_]
     exact ⟨by simp [zac,zaa,h_4,q_39,h_40,b_54],(by repeat (first | exact ht_37 | exact zag _ | exact hT.up | exact hT | refine Tight.restrict ?_ | refine Tight.upd ?_ (by simp) (by simp) | refine Tight.killB ?_ | refine zak ?_)),NoBox.restrict (by intro k hk hb;simp at hk hb;simp [hk,hb,h_4,q_39,h_40,b_54,hn_38 k (by simp [hk,hb])])⟩
    ·try simp at h_40
     cases hp
     try simp [h_4,q_39,h_40]
     refine zal ?_
     rw [X_35_]
     exact ⟨_,rfl,by simp [zac,zaa,h_4,q_39,h_40],(by repeat (first | exact ht_37 | exact zag _ | exact hT.up | exact hT | refine Tight.restrict ?_ | refine Tight.upd ?_ (by simp) (by simp) | refine Tight.killB ?_ | refine zak ?_)),NoBox.restrict (by intro k hk hb;simp at hk hb;simp [hk,hb,h_4,q_39,h_40,hn_38 k (by simp [hk,hb])])⟩
   ·intro out hX
    rw [X_35_] at hX
    obtain ⟨σ_57,rfl,q_60,ht_58,hn_59⟩:=hX
    cases hp
    simp [Goal,FnEnd,retR,rsrc,RSrc.val,nodupR,nodup,tupPart,h_4,q_60]
 ·try simp at h_4
  cases hp
  simp [Goal,FnEnd,retR,rsrc,RSrc.val,nodupR,nodup,tupPart,h_4]
theorem pc108:PC Tryz.prog 108 C108:=pc_of (g:=g108) (zaj _ g108_s.2.1 ⟨pc94,pc96,pc142,trivial⟩) (ent Tryz.func108) fun x y h=>w108 h

def C57:List AV→Option AV:=specP (X:=(List ByteArray) × TStmt × THeap × Unit) fun x=>impl_Exec x.1 x.2.1 x.2.2.1
theorem C57_eq {vars s h_} {y} (h:impl_Exec vars s h_=some y):C57 [av .shr vars,av .shr s,av .shr h_]=some (Res.res y):=zai (x:=(vars,s,h_,())) h
def g57:Cfg:={ P:=Tryz.prog,take:=[(57,40),(106,37),(106,78),(106,81)],keep:=[],gho:=[((106,4),[.thaw (.at 11 0) 1176 1]),((106,6),[.thaw (.at 11 0) 1176 1]),((106,9),[.thaw (.at 11 0) 1176 1]),((106,11),[.thaw (.at 11 0) 1176 1]),((106,13),[.thaw (.at 11 1) 1177 1]),((106,15),[.thaw (.at 11 1) 1177 1]),((106,17),[.thaw (.at 11 0) 1176 1]),((106,2000004),[.frz (.at 11 0)]),((106,2000006),[.frz (.at 11 0)]),((106,2000009),[.frz (.at 11 0)]),((106,2000011),[.frz (.at 11 0)]),((106,2000013),[.frz (.at 11 1)]),((106,2000015),[.frz (.at 11 1)]),((106,2000017),[.frz (.at 11 0)])],ctx:=[(54,C54),(93,C93),(97,C97),(98,C98),(99,C99),(100,C100),(101,C101),(102,C102),(103,C103),(104,C104),(105,C105),(107,C107),(108,C108)],give:=[(106,80)],octx:=[(143,C143)] }
@[simp] theorem g57_s:type_of% (cfg_s (g:=g57) rfl):=cfg_s rfl
theorem kj57 {g:Cfg} {d f:Nat} (id:Nat) (ops:Array Oper) (draw:Bool) (K:List It) (σ:St) (h:[1,5,7,9,11,13].contains id=false):evk g d f (.region id ops draw) K σ=ghoK g d f ((lookK (f,id) g.gho).getD []) ops (behK ((lookK (f,behind id) g.gho).getD []) K) σ:=k_regionS id ops draw K σ h
theorem w57 {vars s h_} {y} (hp:impl_Exec vars s h_=some y):∃ m,callo g57 0 57 [av .shr vars,av .shr s,av .shr h_] mem0=some (Res.res y,m):=by
 have G_106:G106 g57:=⟨rfl,by kernel_rfl,rfl,fun t=>by simp,noAway (fun t=>by simp) (by simp) (fun t=>by simp),by simp [lookN],fun i=>by simp [lookK],by simp [g57,lookK],by simp⟩
 refine st0 [.cell 6 31,.tmp 7] Tryz.func57 ?_
 unfold impl_Exec at hp
 simp [Tryz.f57,-zae,kj57]
 obtain ⟨r_1,h_2,hp⟩:=zab hp
 refine joinP (J:=fun (σ:St)=>(σ.env 0=uL .shr vars∧σ.env 4=uP (1,4)∧σ.env 5=uP (1,5)∧σ.env 6=uP (1,6)∧σ.env 24=uB r_1∧σ.mem (1,4)=some [cI s.kind,.s (.string s.a),.s (.string s.b)]∧σ.mem (1,5)=some [cL .shr h_.vars,cL .shr h_.next]∧σ.mem (1,6)=some [.l .own 0 [],.l .own 0 []])∧Tight (1) σ.mem∧NoBox [(1,4),(1,5),(1,6)] σ.mem) ?_ ?_
 ·replace hp:=h_2
  rw [zae]
  obtain ⟨y_7,h_8,hp⟩:=zab hp
  have c_9:=C93_eq h_8
  simp at c_9
  try simp [-zae,kj57,c_9]
  rcases zad hp with ⟨h_10,hp⟩|⟨h_10,hp⟩
  ·try simp at h_10
   obtain ⟨y_11,h_12,hp⟩:=zab hp
   have c_13:=C54_eq h_12
   simp at c_13
   cases hp
   try simp [-zae,kj57,h_10,c_13]
   refine goal_join ?_
   exact ⟨by simp [zac,zaa,-zae,kj57,h_10,c_13],(by repeat (first | exact zag _ | exact hT.up | exact hT | (simp only [true_and];done) | refine Tight.upd ?_ (by simp) (by simp) | refine Tight.killB ?_ | refine zak ?_)),(by intro k hk;simp at hk;simp [hk,-zae,kj57,h_10,c_13])⟩
  ·try simp at h_10
   cases hp
   try simp [-zae,kj57,h_10]
   refine goal_join ?_
   exact ⟨by simp [zac,zaa,-zae,kj57,h_10],(by repeat (first | exact zag _ | exact hT.up | exact hT | (simp only [true_and];done) | refine Tight.upd ?_ (by simp) (by simp) | refine Tight.killB ?_ | refine zak ?_)),(by intro k hk;simp at hk;simp [hk,-zae,kj57,h_10])⟩
 ·intro σ_3 hJ
  obtain ⟨q_6,ht_4,hn_5⟩:=hJ
  try simp [-zae,kj57,q_6]
  rcases zad hp with ⟨h_14,hp⟩|⟨h_14,hp⟩
  ·try simp at h_14
   cases hp
   simp [Goal,FnEnd,retR,rsrc,RSrc.val,nodupR,nodup,tupPart,-zae,kj57,q_6,h_14]
  ·try simp at h_14
   obtain ⟨y_15,h_16,hp⟩:=zab hp
   have c_17:=C98_eq h_16
   simp at c_17
   obtain ⟨y_18,h_19,hp⟩:=zab hp
   have c_20:=C99_eq h_19
   simp at c_20
   obtain ⟨y_21,h_22,hp⟩:=zab hp
   have c_23:=C99_eq h_22
   simp at c_23
   obtain ⟨y_24,h_25,hp⟩:=zab hp
   have c_26:=C100_eq h_25
   simp at c_26
   try simp [-zae,kj57,q_6,h_14,c_17,c_20,c_23,c_26]
   obtain ⟨r_27,h_28,hp⟩:=zab hp
   refine joinP (J:=fun (σ:St)=>(σ.env 4=uP (1,4)∧σ.env 5=uP (1,5)∧σ.env 6=uP (1,6)∧σ.env 8=uI y_15∧σ.env 9=uI y_18∧σ.env 10=uI y_21∧σ.env 11=uI y_24.1∧σ.env 12=uB y_24.2∧σ.env 48=uB r_27∧σ.mem (1,4)=some [cI s.kind,.s (.string s.a),.s (.string s.b)]∧σ.mem (1,5)=some [cL .shr h_.vars,cL .shr h_.next]∧σ.mem (1,6)=some [.l .own 0 [],.l .own 0 []])∧Tight (1) σ.mem∧NoBox [(1,4),(1,5),(1,6)] σ.mem) ?_ ?_
   ·replace hp:=h_28
    rw [zae]
    obtain ⟨y_33,h_34,hp⟩:=zab hp
    have c_35:=C101_eq h_34
    simp at c_35
    try simp [-zae,kj57,q_6,h_14,c_17,c_20,c_23,c_26,c_35]
    rcases zad hp with ⟨h_36,hp⟩|⟨h_36,hp⟩
    ·try simp at h_36
     obtain ⟨y_37,h_38,hp⟩:=zab hp
     have c_39:=C102_eq h_38
     simp at c_39
     cases hp
     try simp [-zae,kj57,q_6,h_14,h_36,c_39]
     refine goal_join ?_
     exact ⟨by simp [zac,zaa,-zae,kj57,q_6,h_14,h_36,c_39],(by repeat (first | exact ht_4 | exact zag _ | exact hT.up | exact hT | (simp only [q_6];done) | refine Tight.upd ?_ (by simp) (by simp) | refine Tight.killB ?_ | refine zak ?_)),(by intro k hk;simp at hk;simp [hk,-zae,kj57,q_6,h_14,h_36,c_39,hn_5 k (by simp [hk])])⟩
    ·try simp at h_36
     cases hp
     try simp [-zae,kj57,q_6,h_14,h_36]
     refine goal_join ?_
     exact ⟨by simp [zac,zaa,-zae,kj57,q_6,h_14,h_36],(by repeat (first | exact ht_4 | exact zag _ | exact hT.up | exact hT | (simp only [q_6];done) | refine Tight.upd ?_ (by simp) (by simp) | refine Tight.killB ?_ | refine zak ?_)),(by intro k hk;simp at hk;simp [hk,-zae,kj57,q_6,h_14,h_36,hn_5 k (by simp [hk])])⟩
   ·intro σ_29 hJ
    obtain ⟨q_32,ht_30,hn_31⟩:=hJ
    try simp [-zae,kj57,h_14,q_32]
    rcases zad hp with ⟨h_40,hp⟩|⟨h_40,hp⟩
    ·try simp at h_40
     cases hp
     simp [Goal,FnEnd,retR,rsrc,RSrc.val,nodupR,nodup,tupPart,-zae,kj57,h_14,q_32,h_40]
    ·try simp at h_40
     try simp [-zae,kj57,h_14,q_32,h_40]
     obtain ⟨r_41,h_42,hp⟩:=zab hp
     refine joinP (J:=fun (σ:St)=>(σ.env 4=uP (1,4)∧σ.env 5=uP (1,5)∧σ.env 6=uP (1,6)∧σ.env 8=uI y_15∧σ.env 9=uI y_18∧σ.env 10=uI y_21∧σ.env 60=uB r_41∧σ.mem (1,4)=some [cI s.kind,.s (.string s.a),.s (.string s.b)]∧σ.mem (1,5)=some [cL .shr h_.vars,cL .shr h_.next]∧σ.mem (1,6)=some [.l .own 0 [],.l .own 0 []])∧Tight (1) σ.mem∧NoBox [(1,4),(1,5),(1,6)] σ.mem) ?_ ?_
     ·replace hp:=h_42
      rw [zae]
      try simp [-zae,kj57,h_14,q_32,h_40]
      rcases zad hp with ⟨h_47,hp⟩|⟨h_47,hp⟩
      ·try simp at h_47
       cases hp
       try simp [-zae,kj57,h_14,q_32,h_40,h_47]
       refine goal_join ?_
       exact ⟨by simp [zac,zaa,-zae,kj57,h_14,q_32,h_40,h_47],(by repeat (first | exact ht_30 | exact zag _ | exact hT.up | exact hT | (simp only [q_32];done) | refine Tight.upd ?_ (by simp) (by simp) | refine Tight.killB ?_ | refine zak ?_)),(by intro k hk;simp at hk;simp [hk,-zae,kj57,h_14,q_32,h_40,h_47,hn_31 k (by simp [hk])])⟩
      ·try simp at h_47
       cases hp
       try simp [-zae,kj57,h_14,q_32,h_40,h_47]
       refine goal_join ?_
       exact ⟨by simp [zac,zaa,-zae,kj57,h_14,q_32,h_40,h_47],(by repeat (first | exact ht_30 | exact zag _ | exact hT.up | exact hT | (simp only [q_32];done) | refine Tight.upd ?_ (by simp) (by simp) | refine Tight.killB ?_ | refine zak ?_)),(by intro k hk;simp at hk;simp [hk,-zae,kj57,h_14,q_32,h_40,h_47,hn_31 k (by simp [hk])])⟩
     ·intro σ_43 hJ
      obtain ⟨q_46,ht_44,hn_45⟩:=hJ
      try simp [-zae,kj57,h_14,h_40,q_46]
      rcases zad hp with ⟨h_48,hp⟩|⟨h_48,hp⟩
      ·try simp at h_48
       cases hp
       simp [Goal,FnEnd,retR,rsrc,RSrc.val,nodupR,nodup,tupPart,-zae,kj57,h_14,h_40,q_46,h_48]
      ·try simp at h_48
       try simp [-zae,kj57,h_14,h_40,q_46,h_48]
       obtain ⟨r_49,h_50,hp⟩:=zab hp
       refine joinP (J:=fun (σ:St)=>(σ.env 4=uP (1,4)∧σ.env 5=uP (1,5)∧σ.env 6=uP (1,6)∧σ.env 8=uI y_15∧σ.env 9=uI y_18∧σ.env 10=uI y_21∧σ.env 67=uB r_49∧σ.mem (1,4)=some [cI s.kind,.s (.string s.a),.s (.string s.b)]∧σ.mem (1,5)=some [cL .shr h_.vars,cL .shr h_.next]∧σ.mem (1,6)=some [.l .own 0 [],.l .own 0 []])∧Tight (1) σ.mem∧NoBox [(1,4),(1,5),(1,6)] σ.mem) ?_ ?_
       ·replace hp:=h_50
        rw [zae]
        try simp [-zae,kj57,h_14,h_40,q_46,h_48]
        rcases zad hp with ⟨h_55,hp⟩|⟨h_55,hp⟩
        ·try simp at h_55
         cases hp
         try simp [-zae,kj57,h_14,h_40,q_46,h_48,h_55]
         refine goal_join ?_
         exact ⟨by simp [zac,zaa,-zae,kj57,h_14,h_40,q_46,h_48,h_55],(by repeat (first | exact ht_44 | exact zag _ | exact hT.up | exact hT | (simp only [q_46];done) | refine Tight.upd ?_ (by simp) (by simp) | refine Tight.killB ?_ | refine zak ?_)),(by intro k hk;simp at hk;simp [hk,-zae,kj57,h_14,h_40,q_46,h_48,h_55,hn_45 k (by simp [hk])])⟩
        ·try simp at h_55
         cases hp
         try simp [-zae,kj57,h_14,h_40,q_46,h_48,h_55]
         refine goal_join ?_
         exact ⟨by simp [zac,zaa,-zae,kj57,h_14,h_40,q_46,h_48,h_55],(by repeat (first | exact ht_44 | exact zag _ | exact hT.up | exact hT | (simp only [q_46];done) | refine Tight.upd ?_ (by simp) (by simp) | refine Tight.killB ?_ | refine zak ?_)),(by intro k hk;simp at hk;simp [hk,-zae,kj57,h_14,h_40,q_46,h_48,h_55,hn_45 k (by simp [hk])])⟩
       ·intro σ_51 hJ
        obtain ⟨q_54,ht_52,hn_53⟩:=hJ
        try simp [-zae,kj57,h_14,h_40,h_48,q_54]
        rcases zad hp with ⟨h_56,hp⟩|⟨h_56,hp⟩
        ·try simp at h_56
         cases hp
         simp [Goal,FnEnd,retR,rsrc,RSrc.val,nodupR,nodup,tupPart,-zae,kj57,h_14,h_40,h_48,q_54,h_56]
        ·try simp at h_56
         try simp [-zae,kj57,h_14,h_40,h_48,q_54,h_56]
         obtain ⟨r_57,h_58,hp⟩:=zab hp
         refine joinP (J:=fun (σ:St)=>(σ.env 4=uP (1,4)∧σ.env 5=uP (1,5)∧σ.env 6=uP (1,6)∧σ.env 8=uI y_15∧σ.env 9=uI y_18∧σ.env 10=uI y_21∧σ.env 78=uB r_57∧σ.mem (1,4)=some [cI s.kind,.s (.string s.a),.s (.string s.b)]∧σ.mem (1,5)=some [cL .shr h_.vars,cL .shr h_.next]∧σ.mem (1,6)=some [.l .own 0 [],.l .own 0 []])∧Tight (1) σ.mem∧NoBox [(1,4),(1,5),(1,6)] σ.mem) ?_ ?_
         ·replace hp:=h_58
          rw [zae]
          try simp [-zae,kj57,h_14,h_40,h_48,q_54,h_56]
          rcases zad hp with ⟨h_63,hp⟩|⟨h_63,hp⟩
          ·try simp at h_63
           obtain ⟨y_64,h_65,hp⟩:=zab hp
           have c_66:=C103_eq h_65
           simp at c_66
           try simp [-zae,kj57,h_14,h_40,h_48,q_54,h_56,h_63,c_66]
           rcases zad hp with ⟨h_67,hp⟩|⟨h_67,hp⟩
           ·try simp at h_67
            cases hp
            try simp [-zae,kj57,h_14,h_40,h_48,q_54,h_56,h_63,h_67]
            refine goal_join ?_
            exact ⟨by simp [zac,zaa,-zae,kj57,h_14,h_40,h_48,q_54,h_56,h_63,h_67],(by repeat (first | exact ht_52 | exact zag _ | exact hT.up | exact hT | (simp only [q_54];done) | refine Tight.upd ?_ (by simp) (by simp) | refine Tight.killB ?_ | refine zak ?_)),(by intro k hk;simp at hk;simp [hk,-zae,kj57,h_14,h_40,h_48,q_54,h_56,h_63,h_67,hn_53 k (by simp [hk])])⟩
           ·try simp at h_67
            obtain ⟨y_68,h_69,hp⟩:=zab hp
            have c_70:=C104_eq h_69
            simp at c_70
            cases hp
            try simp [-zae,kj57,h_14,h_40,h_48,q_54,h_56,h_63,h_67,c_70]
            refine goal_join ?_
            exact ⟨by simp [zac,zaa,-zae,kj57,h_14,h_40,h_48,q_54,h_56,h_63,h_67,c_70],(by repeat (first | exact ht_52 | exact zag _ | exact hT.up | exact hT | (simp only [q_54];done) | refine Tight.upd ?_ (by simp) (by simp) | refine Tight.killB ?_ | refine zak ?_)),(by intro k hk;simp at hk;simp [hk,-zae,kj57,h_14,h_40,h_48,q_54,h_56,h_63,h_67,c_70,hn_53 k (by simp [hk])])⟩
          ·try simp at h_63
           cases hp
           try simp [-zae,kj57,h_14,h_40,h_48,q_54,h_56,h_63]
           refine goal_join ?_
           exact ⟨by simp [zac,zaa,-zae,kj57,h_14,h_40,h_48,q_54,h_56,h_63],(by repeat (first | exact ht_52 | exact zag _ | exact hT.up | exact hT | (simp only [q_54];done) | refine Tight.upd ?_ (by simp) (by simp) | refine Tight.killB ?_ | refine zak ?_)),(by intro k hk;simp at hk;simp [hk,-zae,kj57,h_14,h_40,h_48,q_54,h_56,h_63,hn_53 k (by simp [hk])])⟩
         ·intro σ_59 hJ
          obtain ⟨q_62,ht_60,hn_61⟩:=hJ
          try simp [-zae,kj57,h_14,h_40,h_48,h_56,q_62]
          rcases zad hp with ⟨h_71,hp⟩|⟨h_71,hp⟩
          ·try simp at h_71
           cases hp
           simp [Goal,FnEnd,retR,rsrc,RSrc.val,nodupR,nodup,tupPart,-zae,kj57,h_14,h_40,h_48,h_56,q_62,h_71]
          ·try simp at h_71
           try simp [-zae,kj57,h_14,h_40,h_48,h_56,q_62,h_71]
           obtain ⟨r_72,h_73,hp⟩:=zab hp
           refine joinP (J:=fun (σ:St)=>(σ.env 4=uP (1,4)∧σ.env 5=uP (1,5)∧σ.env 6=uP (1,6)∧σ.env 8=uI y_15∧σ.env 9=uI y_18∧σ.env 10=uI y_21∧σ.env 97=uB r_72∧σ.mem (1,4)=some [cI s.kind,.s (.string s.a),.s (.string s.b)]∧σ.mem (1,5)=some [cL .shr h_.vars,cL .shr h_.next]∧σ.mem (1,6)=some [.l .own 0 [],.l .own 0 []])∧Tight (1) σ.mem∧NoBox [(1,4),(1,5),(1,6)] σ.mem) ?_ ?_
           ·replace hp:=h_73
            rw [zae]
            try simp [-zae,kj57,h_14,h_40,h_48,h_56,q_62,h_71]
            rcases zad hp with ⟨h_78,hp⟩|⟨h_78,hp⟩
            ·try simp at h_78
             obtain ⟨y_79,h_80,hp⟩:=zab hp
             have c_81:=C105_eq h_80
             simp at c_81
             obtain ⟨y_82,h_83,hp⟩:=zab hp
             have c_84:=C104_eq h_83
             simp at c_84
             cases hp
             try simp [-zae,kj57,h_14,h_40,h_48,h_56,q_62,h_71,h_78,c_81,c_84]
             refine goal_join ?_
             exact ⟨by simp [zac,zaa,-zae,kj57,h_14,h_40,h_48,h_56,q_62,h_71,h_78,c_81,c_84],(by repeat (first | exact ht_60 | exact zag _ | exact hT.up | exact hT | (simp only [q_62];done) | refine Tight.upd ?_ (by simp) (by simp) | refine Tight.killB ?_ | refine zak ?_)),(by intro k hk;simp at hk;simp [hk,-zae,kj57,h_14,h_40,h_48,h_56,q_62,h_71,h_78,c_81,c_84,hn_61 k (by simp [hk])])⟩
            ·try simp at h_78
             cases hp
             try simp [-zae,kj57,h_14,h_40,h_48,h_56,q_62,h_71,h_78]
             refine goal_join ?_
             exact ⟨by simp [zac,zaa,-zae,kj57,h_14,h_40,h_48,h_56,q_62,h_71,h_78],(by repeat (first | exact ht_60 | exact zag _ | exact hT.up | exact hT | (simp only [q_62];done) | refine Tight.upd ?_ (by simp) (by simp) | refine Tight.killB ?_ | refine zak ?_)),(by intro k hk;simp at hk;simp [hk,-zae,kj57,h_14,h_40,h_48,h_56,q_62,h_71,h_78,hn_61 k (by simp [hk])])⟩
           ·intro σ_74 hJ
            obtain ⟨q_77,ht_75,hn_76⟩:=hJ
            try simp [-zae,kj57,h_14,h_40,h_48,h_56,h_71,q_77]
            rcases zad hp with ⟨h_85,hp⟩|⟨h_85,hp⟩
            ·try simp at h_85
             cases hp
             simp [Goal,FnEnd,retR,rsrc,RSrc.val,nodupR,nodup,tupPart,-zae,kj57,h_14,h_40,h_48,h_56,h_71,q_77,h_85]
            ·try simp at h_85
             obtain ⟨y_86,h_87,hp⟩:=zab hp
             try simp [-zae,kj57,h_14,h_40,h_48,h_56,h_71,q_77,h_85]
             refine goal_callE [av .shr h_,av .shr s,av .shr y_15,av .shr y_18,av .shr y_21] (fun r=>∃ me_88:Md,r=av me_88 y_86) (by simp [-zae,kj57,h_14,h_40,h_48,h_56,h_71,q_77,h_85]) (wI106 G_106 (by repeat (first | exact ht_75 | exact zag _ | exact hT.up | exact hT | (simp only [q_77];done) | refine Tight.upd ?_ (by simp) (by simp) | refine Tight.killB ?_ | refine zak ?_)) (killB_keys (L:=[(1,4),(1,5),(1,6)]) (by intro k hk;simp at hk;simp [hk,-zae,kj57,h_14,h_40,h_48,h_56,h_71,q_77,h_85,hn_76 k (by simp [hk])]) (by simp [-zae,kj57,h_14,h_40,h_48,h_56,h_71,q_77,h_85])) h_87) ?_
             rintro _ ⟨me_88,rfl⟩
             have n_89:=hn_76 (1,13) (by simp)
             obtain ⟨y_90,h_91,hp⟩:=zab hp
             have c_92:=C107_eq h_91
             simp at c_92
             try simp [-zae,kj57,h_14,h_40,h_48,h_56,h_71,q_77,h_85,n_89,c_92]
             rcases zad hp with ⟨h_93,hp⟩|⟨h_93,hp⟩
             ·try simp at h_93
              cases hp
              simp [Goal,FnEnd,retR,rsrc,RSrc.val,nodupR,nodup,tupPart,-zae,kj57,h_14,h_40,h_48,h_56,h_71,q_77,h_85,h_93]
             ·try simp at h_93
              obtain ⟨y_94,h_95,hp⟩:=zab hp
              have c_96:=C108_eq h_95
              simp at c_96
              cases hp
              simp [Goal,FnEnd,retR,rsrc,RSrc.val,nodupR,nodup,tupPart,-zae,kj57,h_14,h_40,h_48,h_56,h_71,q_77,h_85,h_93,c_96]
theorem pc57:PC Tryz.prog 57 C57:=pc_of (g:=g57) (ctxOK_ofO [(54,C54),(93,C93),(97,C97),(98,C98),(99,C99),(100,C100),(101,C101),(102,C102),(103,C103),(104,C104),(105,C105),(107,C107),(108,C108)] rfl ⟨pc54,pc93,pc97,pc98,pc99,pc100,pc101,pc102,pc103,pc104,pc105,pc107,pc108,trivial⟩ [(143,C143)] rfl ⟨po143,trivial⟩) (ent Tryz.func57) fun x y h=>w57 h
end Go.Proofs

