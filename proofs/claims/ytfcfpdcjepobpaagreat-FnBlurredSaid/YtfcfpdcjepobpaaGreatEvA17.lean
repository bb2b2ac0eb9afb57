import Derived.Test.YtfcfpdcjepobpaaGreatEvA16
set_option linter.unusedSimpArgs false
set_option linter.unusedVariables false
set_option linter.unnecessarySimpa false
noncomputable section
set_option maxHeartbeats 4000000
set_option maxRecDepth 100000
namespace Go.Proofs
open Go.Ev
def C28:List AV→Option AV:=specP (X:=THeap × Unit) fun x=>zbo x.1
theorem C28_eq {h_} {y} (h:zbo h_=some y):C28 [av .shr h_]=some (Res.res y):=zah (x:=(h_,())) h
def g28:Cfg:={ P:=Tryz.prog,take:=[],keep:=[],gho:=[],ctx:=[(21,C21),(70,C70)] }
@[simp] theorem g28_s:type_of% (cfg_s (g:=g28) rfl):=cfg_s rfl
theorem w28 {h_} {y} (hp:zbo h_=some y):∃ m,callo g28 0 28 [av .shr h_] mem0=some (Res.res y,m):=by
 refine st0 [.cell 2 32] Tryz.func28 ?_
 unfold zbo at hp
 obtain ⟨y_1,h_2,hp⟩:=zaa hp
 have c_3:=C70_eq h_2
 simp at c_3
 obtain ⟨y_4,h_5,hp⟩:=zaa hp
 have c_6:=C21_eq h_5
 simp at c_6
 cases hp
 simp [Tryz.f28,Goal,FnEnd,retR,rsrc,RSrc.val,nodupR,nodup,tupPart,c_3,c_6]
theorem pc28:PC Tryz.prog 28 C28:=pc_of (g:=g28) (zag _ g28_s.2.1 ⟨pc21,pc70,trivial⟩) (ent Tryz.func28) fun x y h=>w28 h

def C29:List AV→Option AV:=specP (X:=THeap × Unit) fun x=>zce x.1
theorem C29_eq {h_} {y} (h:zce h_=some y):C29 [av .shr h_]=some (Res.res y):=zah (x:=(h_,())) h
def g29:Cfg:={ P:=Tryz.prog,take:=[],keep:=[],gho:=[],ctx:=[(25,C25),(45,C45)] }
@[simp] theorem g29_s:type_of% (cfg_s (g:=g29) rfl):=cfg_s rfl
theorem w29 {h_} {y} (hp:zce h_=some y):∃ m,callo g29 0 29 [av .shr h_] mem0=some (Res.res y,m):=by
 refine st0 [.cell 2 32] Tryz.func29 ?_
 unfold zce at hp
 obtain ⟨y_1,h_2,hp⟩:=zaa hp
 have c_3:=C45_eq h_2
 simp at c_3
 obtain ⟨y_4,h_5,hp⟩:=zaa hp
 have c_6:=C25_eq h_5
 simp at c_6
 cases hp
 simp [Tryz.f29,Goal,FnEnd,retR,rsrc,RSrc.val,nodupR,nodup,tupPart,c_3,c_6]
theorem pc29:PC Tryz.prog 29 C29:=pc_of (g:=g29) (zag _ g29_s.2.1 ⟨pc25,pc45,trivial⟩) (ent Tryz.func29) fun x y h=>w29 h

def C111:List AV→Option AV:=specP (X:=(List Int) × (List Int) × Unit) fun x=>zbs x.1 x.2.1
theorem C111_eq {s1 s2} {y} (h:zbs s1 s2=some y):C111 [av .shr s1,av .shr s2]=some (Res.res y):=zah (x:=(s1,s2,())) h
def g111:Cfg:={ P:=Tryz.prog,take:=[],keep:=[((111,4),{ hd:=[0,1,12,13],bx:=[],ex:=[],rt:=[4] })],gho:=[],ctx:=[] }
@[simp] theorem g111_s:type_of% (cfg_s (g:=g111) rfl):=cfg_s rfl
theorem w111 {s1 s2} {y} (hp:zbs s1 s2=some y):∃ m,callo g111 0 111 [av .shr s1,av .shr s2] mem0=some (Res.res y,m):=by
 refine st0 [.tmp 4] Tryz.func111 ?_
 unfold zbs at hp
 simp [Tryz.f111]
 rcases zad hp with ⟨h_1,hp⟩|⟨h_1,hp⟩
 ·try simp at h_1
  cases hp
  simp [Goal,FnEnd,h_1]
 ·try simp at h_1
  try simp [h_1]
  obtain ⟨r_21,h_22,hp⟩:=zaa hp
  obtain ⟨I_4,I_4_⟩:=exV fun (s_2:Int) (σ:St)=>(σ.env 0=uL .shr s1∧σ.env 1=uL .shr s2∧σ.env 12=uI (s1.length:Int)∧σ.env 13=uI s_2)∧σ.mem=mem0
  obtain ⟨X_5,X_5_⟩:=exV fun (r_21:(Unit) ⊕ (Unit)) (out:Out)=>Sum.elim (fun r_21=>∃ σ:St,out=.ret σ∧σ.env 4=uB false∧σ.mem=mem0) (fun r_21=>∃ σ:St,out=.exit 0 σ∧σ.mem=mem0) r_21
  refine loopP ({ hd:=[0,1,12,13],bx:=[],ex:=[],rt:=[4] }) I_4 X_5 h_22 (by exact rfl) ?_ ?_ ?_
  ·rw [I_4_]
   exact ⟨by simp [zac,zab,h_1],by simp [zab,h_1]⟩
  ·intro s_2 σ_6 a_3 hI hp
   rw [I_4_] at hI
   obtain ⟨q_8,q_7⟩:=hI
   try simp [h_1,q_8,q_7]
   rcases zad hp with ⟨h_9,hp⟩|⟨h_9,hp⟩
   ·try simp at h_9
    obtain ⟨e_10,h_11,hp⟩:=zaa hp
    have b_12:=at_lo h_11
    have b_13:=at_hi h_11
    try simp at b_12 b_13
    have c_14:=seg_at' h_11 0 1 (by decide) (ds:=[.sc (.int .i64 e_10)]) rfl
    try simp at c_14
    obtain ⟨e_15,h_16,hp⟩:=zaa hp
    have b_17:=at_lo h_16
    have b_18:=at_hi h_16
    try simp at b_17 b_18
    have c_19:=seg_at' h_16 0 1 (by decide) (ds:=[.sc (.int .i64 e_15)]) rfl
    try simp at c_19
    try simp [h_1,q_8,q_7,h_9,b_12,b_13,c_14,b_17,b_18,c_19]
    rcases zad hp with ⟨h_20,hp⟩|⟨h_20,hp⟩
    ·try simp at h_20
     cases hp
     try simp [h_1,q_8,q_7,h_9,h_20]
     refine zaq ?_
     rw [X_5_]
     exact ⟨_,rfl,by simp [zac,zab,h_1,q_8,q_7,h_9,h_20],by simp [zab,h_1,q_8,q_7,h_9,h_20]⟩
    ·try simp at h_20
     cases hp
     try simp [h_1,q_8,q_7,h_9,h_20]
     refine zaf ?_
     rw [I_4_]
     exact ⟨by simp [zac,zab,h_1,q_8,q_7,h_9,h_20],by simp [zab,h_1,q_8,q_7,h_9,h_20]⟩
   ·try simp at h_9
    cases hp
    try simp [h_1,q_8,q_7,h_9]
    refine zai ?_
    rw [X_5_]
    exact ⟨_,rfl,by simp [zab,h_1,q_8,q_7,h_9]⟩
  ·intro out hX
   rw [X_5_] at hX
   rcases r_21 with r_21 | r_21
   ·simp only [Sum.elim_inl,Sum.elim_inr] at hX hp
    obtain ⟨σ_23,rfl,q_25,q_24⟩:=hX
    cases hp
    simp [Goal,FnEnd,h_1,q_25,q_24]
   ·simp only [Sum.elim_inl,Sum.elim_inr] at hX hp
    obtain ⟨σ_26,rfl,q_27⟩:=hX
    cases hp
    simp [Goal,FnEnd,h_1,q_27]
theorem pc111:PC Tryz.prog 111 C111:=pc_of (g:=g111) (zag [] rfl trivial) (ent Tryz.func111) fun x y h=>w111 h

def C113:List AV→Option AV:=specP (X:=TNode × TNode × Unit) fun x=>zbl x.1 x.2.1
def g113:Cfg:={ P:=Tryz.prog,take:=[],keep:=[],gho:=[],ctx:=[(111,C111)] }
@[simp] theorem g113_s:type_of% (cfg_s (g:=g113) rfl):=cfg_s rfl
theorem w113 {x_ y_} {y} (hp:zbl x_ y_=some y):∃ m,callo g113 0 113 [av .shr x_,av .shr y_] mem0=some (Res.res y,m):=by
 refine st0 [.tmp 4] Tryz.func113 ?_
 unfold zbl at hp
 obtain ⟨y_1,h_2,hp⟩:=zaa hp
 have c_3:=C111_eq h_2
 simp at c_3
 simp [Tryz.f113,c_3]
 rcases zad hp with ⟨h_4,hp⟩|⟨h_4,hp⟩
 ·try simp at h_4
  obtain ⟨y_5,h_6,hp⟩:=zaa hp
  have c_7:=C111_eq h_6
  simp at c_7
  try simp [h_4,c_7]
  rcases zad hp with ⟨h_8,hp⟩|⟨h_8,hp⟩
  ·try simp at h_8
   try simp [h_4,h_8]
   rcases zad hp with ⟨h_9,hp⟩|⟨h_9,hp⟩
   ·try simp at h_9
    cases hp
    simp [Goal,FnEnd,h_4,h_8,h_9]
   ·try simp at h_9
    cases hp
    simp [Goal,FnEnd,h_4,h_8,h_9]
  ·try simp at h_8
   cases hp
   simp [Goal,FnEnd,h_4,h_8]
 ·try simp at h_4
  cases hp
  simp [Goal,FnEnd,h_4]
theorem pc113:PC Tryz.prog 113 C113:=pc_of (g:=g113) (zag _ g113_s.2.1 ⟨pc111,trivial⟩) (ent Tryz.func113) fun x y h=>w113 h

abbrev G112 (g:Cfg):Prop:=Has Tryz.prog g 112 Tryz.f112 [] [(4,{ hd:=[1,2,15,16,17],bx:=[8,9],ex:=[],rt:=[6] })] [] []
theorem wI112 {g:Cfg} (G:G112 g) {d:Nat} {mem:Mem} (hT:Tight d mem)  {s1:(List TNode)} {s2:(List TNode)} {eq:(TNode→TNode→Option (Bool))} {m_0:Md} (hm_0:LentM m_0) {m_1:Md} (hm_1:LentM m_1) {fk_eq:Nat} {caps_eq:List (Key × Nat)} (hl_eq:∀ c∈caps_eq,c.1.1≤d) (hc_eq:Clo g d mem fk_eq caps_eq fun x:TNode × TNode × Unit=>eq x.1 x.2.1) {y} (hp:zak s1 s2 eq=some y):callo g d 112 [av m_0 s1,av m_1 s2,.one (.fn fk_eq caps_eq)] mem=some (Res.res y,mem):=by
 have gP:=G.P;have gt:=G.tk;have gr:=G.ro;have gg:=G.gh
 have k_4:=G.kp (4,{ hd:=[1,2,15,16,17],bx:=[8,9],ex:=[],rt:=[6] }) (by simp)
 have hT2:memKill (fun k=>decide (d < k.1)) mem=mem:=hT
 have hm0:∀ t,mem (d+1,t)=none:=fun t=>hT.none (by simp)
 refine zhq (Tryz.f112.body.getD .skip) [.tmp 6] G Tryz.func112 (by kernel_rfl) (by simp [Tryz.ntmps112]) rfl ?_
 unfold zak at hp
 simp [Tryz.f112,gP,gt,gr,gg,hm0,hm_0.copy,hm_0.elem,hm_1.copy,hm_1.elem]
 rcases zad hp with ⟨h_1,hp⟩|⟨h_1,hp⟩
 ·try simp at h_1
  cases hp
  simp [Goal,FnEndI,zbe,gP,gt,gr,gg,hm0,hm_0.copy,hm_0.elem,hm_1.copy,hm_1.elem,h_1,hT2]
 ·try simp at h_1
  try simp [gP,gt,gr,gg,hm0,hm_0.copy,hm_0.elem,hm_1.copy,hm_1.elem,h_1]
  obtain ⟨r_28,h_29,hp⟩:=zaa hp
  obtain ⟨I_4,I_4_⟩:=exV fun (s_2:Int) (σ:St)=>(σ.env 1=uL m_1 s2∧σ.env 15=uL m_0 s1∧σ.env 16=uI (s1.length:Int)∧σ.env 17=uI s_2)∧σ.env 2=.one (.fn fk_eq caps_eq)∧Tight (d+1) σ.mem∧Agree d mem σ.mem∧NoBoxD d [] σ.mem
  obtain ⟨X_5,X_5_⟩:=exV fun (r_28:(Unit) ⊕ (Unit)) (out:Out)=>Sum.elim (fun r_28=>∃ σ:St,out=.ret σ∧σ.env 6=uB false∧Tight (d+1) σ.mem∧Agree d mem σ.mem∧NoBoxD d [] σ.mem) (fun r_28=>∃ σ:St,out=.exit 0 σ∧Tight (d+1) σ.mem∧Agree d mem σ.mem∧NoBoxD d [] σ.mem) r_28
  refine loopP ({ hd:=[1,2,15,16,17],bx:=[8,9],ex:=[],rt:=[6] }) I_4 X_5 h_29 (by exact k_4) ?_ ?_ ?_
  ·rw [I_4_]
   exact ⟨by simp [zac,zab,gP,gt,gr,gg,hm0,hm_0.copy,hm_0.elem,hm_1.copy,hm_1.elem,h_1],by simp [zac,gP,gt,gr,gg,hm0,hm_0.copy,hm_0.elem,hm_1.copy,hm_1.elem,h_1] <;> first | (intro x x1 x2 hx;have h0:=hl_eq _ hx;simp at h0;omega) | (intro x hx;have h0:=hl_eq _ hx;simp at h0;omega),(by repeat (first | exact zap _ | exact hT.up | exact hT | refine Tight.restrict ?_ | refine Tight.upd ?_ (by simp) (by simp) | refine Tight.killB ?_ | refine zbv ?_)),(by repeat (first | exact fun k hk=>rfl | refine Agree.restrict hT ?_ | refine Agree.upd ?_ (by simp))),NoBoxD.restrict (by intro k hd hk hb;simp at hk hb;simp [hk,hb,gP,gt,gr,gg,hm0,hm_0.copy,hm_0.elem,hm_1.copy,hm_1.elem,h_1,hT.none hd])⟩
  ·intro s_2 σ_6 a_3 hI hp
   rw [I_4_] at hI
   obtain ⟨q_11,q_7,ht_8,ha_9,hn_10⟩:=hI
   try simp [gP,gt,gr,gg,hm0,hm_0.copy,hm_0.elem,hm_1.copy,hm_1.elem,h_1,q_11,q_7]
   rcases zad hp with ⟨h_12,hp⟩|⟨h_12,hp⟩
   ·try simp at h_12
    obtain ⟨e_13,h_14,hp⟩:=zaa hp
    have b_15:=at_lo h_14
    have b_16:=at_hi h_14
    try simp at b_15 b_16
    have c_17:=seg_at' h_14 0 4 (by decide) (ds:=[.sl e_13.vars.length (encL e_13.vars),.sl e_13.reach.length (encL e_13.reach),.sc (.int .i64 e_13.shared),.sc (.int .i64 e_13.many)]) rfl
    try simp at c_17
    have n_18:=hn_10 (d+1,8) (by simp) (by simp)
    obtain ⟨e_19,h_20,hp⟩:=zaa hp
    have b_21:=at_lo h_20
    have b_22:=at_hi h_20
    try simp at b_21 b_22
    have c_23:=seg_at' h_20 0 4 (by decide) (ds:=[.sl e_19.vars.length (encL e_19.vars),.sl e_19.reach.length (encL e_19.reach),.sc (.int .i64 e_19.shared),.sc (.int .i64 e_19.many)]) rfl
    try simp at c_23
    have n_24:=hn_10 (d+1,9) (by simp) (by simp)
    obtain ⟨y_25,h_26,hp⟩:=zaa hp
    try simp [gP,gt,gr,gg,hm0,hm_0.copy,hm_0.elem,hm_1.copy,hm_1.elem,h_1,q_11,q_7,h_12,b_15,b_16,c_17,n_18,b_21,b_22,c_23,n_24]
    refine zga ([av m_0 e_13,av m_1 e_19] ++ capsAV caps_eq) (Res.res y_25) (by simp [capsAV,gP,gt,gr,gg,hm0,hm_0.copy,hm_0.elem,hm_1.copy,hm_1.elem,h_1,q_11,q_7,h_12]) (hc_eq _ _ _ (e_13,e_19,()) _ (Nat.le_succ d) (by repeat (first | exact ha_9 | exact fun k hk=>rfl | refine Agree.upd ?_ (by simp))) (by repeat (first | exact ht_8 | exact zap _ | exact hT.up | exact hT | (simp only [q_11,q_7];done) | refine Tight.upd ?_ (by simp) (by simp) | refine Tight.killB ?_ | refine zbv ?_)) ⟨_,_,hm_0,rfl,⟨_,_,hm_1,rfl,rfl⟩⟩ h_26) ?_
    try simp [gP,gt,gr,gg,hm0,hm_0.copy,hm_0.elem,hm_1.copy,hm_1.elem,h_1,q_11,q_7,h_12]
    rcases zad hp with ⟨h_27,hp⟩|⟨h_27,hp⟩
    ·try simp at h_27
     cases hp
     try simp [gP,gt,gr,gg,hm0,hm_0.copy,hm_0.elem,hm_1.copy,hm_1.elem,h_1,q_11,q_7,h_12,h_27]
     refine zaf ?_
     rw [I_4_]
     exact ⟨by simp [zac,zab,gP,gt,gr,gg,hm0,hm_0.copy,hm_0.elem,hm_1.copy,hm_1.elem,h_1,q_11,q_7,h_12,h_27],by simp [zac,gP,gt,gr,gg,hm0,hm_0.copy,hm_0.elem,hm_1.copy,hm_1.elem,h_1,q_11,q_7,h_12,h_27] <;> first | (intro x x1 x2 hx;have h0:=hl_eq _ hx;simp at h0;omega) | (intro x hx;have h0:=hl_eq _ hx;simp at h0;omega),(by repeat (first | exact ht_8 | exact zap _ | exact hT.up | exact hT | refine Tight.restrict ?_ | refine Tight.upd ?_ (by simp) (by simp) | refine Tight.killB ?_ | refine zbv ?_)),(by repeat (first | exact ha_9 | exact fun k hk=>rfl | refine Agree.restrict hT ?_ | refine Agree.upd ?_ (by simp))),NoBoxD.restrict (by intro k hd hk hb;simp at hk hb;simp [hk,hb,gP,gt,gr,gg,hm0,hm_0.copy,hm_0.elem,hm_1.copy,hm_1.elem,h_1,q_11,q_7,h_12,h_27,hn_10 k hd (by simp [hk,hb])])⟩
    ·try simp at h_27
     cases hp
     try simp [gP,gt,gr,gg,hm0,hm_0.copy,hm_0.elem,hm_1.copy,hm_1.elem,h_1,q_11,q_7,h_12,h_27]
     refine zaq ?_
     rw [X_5_]
     exact ⟨_,rfl,by simp [zac,zab,gP,gt,gr,gg,hm0,hm_0.copy,hm_0.elem,hm_1.copy,hm_1.elem,h_1,q_11,q_7,h_12,h_27],(by repeat (first | exact ht_8 | exact zap _ | exact hT.up | exact hT | refine Tight.restrict ?_ | refine Tight.upd ?_ (by simp) (by simp) | refine Tight.killB ?_ | refine zbv ?_)),(by repeat (first | exact ha_9 | exact fun k hk=>rfl | refine Agree.restrict hT ?_ | refine Agree.upd ?_ (by simp))),NoBoxD.restrict (by intro k hd hk hb;simp at hk hb;simp [hk,hb,gP,gt,gr,gg,hm0,hm_0.copy,hm_0.elem,hm_1.copy,hm_1.elem,h_1,q_11,q_7,h_12,h_27,hn_10 k hd (by simp [hk,hb])])⟩
   ·try simp at h_12
    cases hp
    try simp [gP,gt,gr,gg,hm0,hm_0.copy,hm_0.elem,hm_1.copy,hm_1.elem,h_1,q_11,q_7,h_12]
    refine zai ?_
    rw [X_5_]
    exact ⟨_,rfl,(by repeat (first | exact ht_8 | exact zap _ | exact hT.up | exact hT | refine Tight.restrict ?_ | refine Tight.upd ?_ (by simp) (by simp) | refine Tight.killB ?_ | refine zbv ?_)),(by repeat (first | exact ha_9 | exact fun k hk=>rfl | refine Agree.restrict hT ?_ | refine Agree.upd ?_ (by simp))),NoBoxD.restrict (by intro k hd hk hb;simp at hk hb;simp [hk,hb,gP,gt,gr,gg,hm0,hm_0.copy,hm_0.elem,hm_1.copy,hm_1.elem,h_1,q_11,q_7,h_12,hn_10 k hd (by simp [hk,hb])])⟩
  ·intro out hX
   rw [X_5_] at hX
   rcases r_28 with r_28 | r_28
   ·simp only [Sum.elim_inl,Sum.elim_inr] at hX hp
    obtain ⟨σ_30,rfl,q_34,ht_31,ha_32,hn_33⟩:=hX
    cases hp
    simp [Goal,FnEndI,zbe,gP,gt,gr,gg,hm0,hm_0.copy,hm_0.elem,hm_1.copy,hm_1.elem,h_1,q_34,zko ha_32 hT]
   ·simp only [Sum.elim_inl,Sum.elim_inr] at hX hp
    obtain ⟨σ_35,rfl,ht_36,ha_37,hn_38⟩:=hX
    cases hp
    simp [Goal,FnEndI,zbe,gP,gt,gr,gg,hm0,hm_0.copy,hm_0.elem,hm_1.copy,hm_1.elem,h_1,zko ha_37 hT]

def C71:List AV→Option AV:=specP (X:=TStructure × TStructure × Unit) fun x=>zbu x.1 x.2.1
theorem C71_eq {a_ b_} {y} (h:zbu a_ b_=some y):C71 [av .shr a_,av .shr b_]=some (Res.res y):=zah (x:=(a_,b_,())) h
def g71:Cfg:={ P:=Tryz.prog,take:=[],keep:=[((112,4),{ hd:=[1,2,15,16,17],bx:=[8,9],ex:=[],rt:=[6] })],gho:=[],ctx:=[(111,C111),(113,C113)] }
@[simp] theorem g71_s:type_of% (cfg_s (g:=g71) rfl):=cfg_s rfl
theorem w71 {a_ b_} {y} (hp:zbu a_ b_=some y):∃ m,callo g71 0 71 [av .shr a_,av .shr b_] mem0=some (Res.res y,m):=by
 have G_112:G112 g71:=⟨rfl,by kernel_rfl,rfl,fun t=>by simp,noAway (fun t=>by simp) (by simp) (fun t=>by simp),by simp [lookN],fun i=>by simp [lookK],by simp [g71,lookK],by simp⟩
 refine st0 [.tmp 4] Tryz.func71 ?_
 unfold zbu at hp
 obtain ⟨y_1,h_2,hp⟩:=zaa hp
 have c_3:=C111_eq h_2
 simp at c_3
 simp [Tryz.f71,c_3]
 rcases zad hp with ⟨h_4,hp⟩|⟨h_4,hp⟩
 ·try simp at h_4
  obtain ⟨y_5,h_6,hp⟩:=zaa hp
  try simp [h_4]
  refine zga [av .shr a_.nodes,av .shr b_.nodes,.one (.fn 113 [])] (Res.res y_5) (by simp [h_4]) (wI112 G_112 (by repeat (first | exact zap _ | exact hT.up | exact hT | (simp only [true_and];done) | refine Tight.upd ?_ (by simp) (by simp) | refine Tight.killB ?_ | refine zbv ?_)) (.inl rfl) (.inl rfl) (by simp) (clo_ctx (by rfl)) h_6) ?_
  cases hp
  simp [Goal,FnEnd,h_4]
 ·try simp at h_4
  cases hp
  simp [Goal,FnEnd,h_4]
theorem pc71:PC Tryz.prog 71 C71:=pc_of (g:=g71) (zag _ g71_s.2.1 ⟨pc111,pc113,trivial⟩) (ent Tryz.func71) fun x y h=>w71 h

def C30:List AV→Option AV:=specP (X:=TStructure × Unit) fun x=>zcb x.1
theorem C30_eq {s} {y} (h:zcb s=some y):C30 [av .shr s]=some (Res.res y):=zah (x:=(s,())) h
def g30:Cfg:={ P:=Tryz.prog,take:=[],keep:=[],gho:=[],ctx:=[(21,C21),(71,C71)] }
@[simp] theorem g30_s:type_of% (cfg_s (g:=g30) rfl):=cfg_s rfl
theorem w30 {s} {y} (hp:zcb s=some y):∃ m,callo g30 0 30 [av .shr s] mem0=some (Res.res y,m):=by
 refine st0 [.tmp 2] Tryz.func30 ?_
 unfold zcb at hp
 obtain ⟨y_1,h_2,hp⟩:=zaa hp
 have c_3:=C21_eq h_2
 simp at c_3
 obtain ⟨y_4,h_5,hp⟩:=zaa hp
 have c_6:=C71_eq h_5
 simp at c_6
 cases hp
 simp [Tryz.f30,Goal,FnEnd,c_3,c_6]
theorem pc30:PC Tryz.prog 30 C30:=pc_of (g:=g30) (zag _ g30_s.2.1 ⟨pc21,pc71,trivial⟩) (ent Tryz.func30) fun x y h=>w30 h

def C31:List AV→Option AV:=specP (X:=TStructure × Unit) fun x=>zea x.1
theorem C31_eq {s} {y} (h:zea s=some y):C31 [av .shr s]=some (Res.res y):=zah (x:=(s,())) h
def g31:Cfg:={ P:=Tryz.prog,take:=[],keep:=[],gho:=[],ctx:=[(24,C24),(25,C25)] }
@[simp] theorem g31_s:type_of% (cfg_s (g:=g31) rfl):=cfg_s rfl
theorem w31 {s} {y} (hp:zea s=some y):∃ m,callo g31 0 31 [av .shr s] mem0=some (Res.res y,m):=by
 refine st0 [.tmp 2] Tryz.func31 ?_
 unfold zea at hp
 obtain ⟨y_1,h_2,hp⟩:=zaa hp
 have c_3:=C25_eq h_2
 simp at c_3
 obtain ⟨y_4,h_5,hp⟩:=zaa hp
 have c_6:=C24_eq h_5
 simp at c_6
 cases hp
 simp [Tryz.f31,Goal,FnEnd,c_3,c_6]
theorem pc31:PC Tryz.prog 31 C31:=pc_of (g:=g31) (zag _ g31_s.2.1 ⟨pc24,pc25,trivial⟩) (ent Tryz.func31) fun x y h=>w31 h

def C158:List AV→Option AV:=specP (X:=Int × Int × Unit) fun x=>zcc x.1 x.2.1
theorem zoe {a_ b_} {y} (h:zcc a_ b_=some y):C158 [av .shr a_,av .shr b_]=some (Res.res y):=zah (x:=(a_,b_,())) h
def g158:Cfg:={ P:=Tryz.prog,take:=[],keep:=[],gho:=[],ctx:=[(73,C73)] }
@[simp] theorem g158_s:type_of% (cfg_s (g:=g158) rfl):=cfg_s rfl
theorem w158 {a_ b_} {y} (hp:zcc a_ b_=some y):∃ m,callo g158 0 158 [av .shr a_,av .shr b_] mem0=some (Res.res y,m):=by
 refine st0 [.tmp 4] Tryz.func158 ?_
 unfold zcc at hp
 obtain ⟨y_1,h_2,hp⟩:=zaa hp
 have c_3:=zph h_2
 simp at c_3
 simp [Tryz.f158,c_3]
 rcases zad hp with ⟨h_4,hp⟩|⟨h_4,hp⟩
 ·try simp at h_4
  obtain ⟨y_5,h_6,hp⟩:=zaa hp
  have c_7:=zph h_6
  simp at c_7
  try simp [h_4,c_7]
  rcases zad hp with ⟨h_8,hp⟩|⟨h_8,hp⟩
  ·try simp at h_8
   try simp [h_4,h_8]
   rcases zad hp with ⟨h_9,hp⟩|⟨h_9,hp⟩
   ·try simp at h_9
    cases hp
    simp [Goal,FnEnd,h_4,h_8,h_9]
   ·try simp at h_9
    cases hp
    simp [Goal,FnEnd,h_4,h_8,h_9]
  ·try simp at h_8
   cases hp
   simp [Goal,FnEnd,h_4,h_8]
 ·try simp at h_4
  cases hp
  simp [Goal,FnEnd,h_4]
theorem pc158:PC Tryz.prog 158 C158:=pc_of (g:=g158) (zag _ g158_s.2.1 ⟨pc73,trivial⟩) (ent Tryz.func158) fun x y h=>w158 h

def C166:List AV→Option AV:=specP (X:=(List Int) × (List Int) × Unit) fun x=>zds x.1 x.2.1
theorem C166_eq {a_ b_} {y} (h:zds a_ b_=some y):C166 [av .shr a_,av .shr b_]=some (Res.res y):=zah (x:=(a_,b_,())) h
def g166:Cfg:={ P:=Tryz.prog,take:=[],keep:=[((166,4),{ hd:=[0,1,5],bx:=[],ex:=[],rt:=[4] })],gho:=[],ctx:=[(158,C158)] }
@[simp] theorem g166_s:type_of% (cfg_s (g:=g166) rfl):=cfg_s rfl
theorem w166 {a_ b_} {y} (hp:zds a_ b_=some y):∃ m,callo g166 0 166 [av .shr a_,av .shr b_] mem0=some (Res.res y,m):=by
 refine st0 [.tmp 4] Tryz.func166 ?_
 unfold zds at hp
 simp [Tryz.f166]
 rcases zad hp with ⟨h_1,hp⟩|⟨h_1,hp⟩
 ·try simp at h_1
  cases hp
  simp [Goal,FnEnd,h_1]
 ·try simp at h_1
  try simp [h_1]
  obtain ⟨r_24,h_25,hp⟩:=zaa hp
  obtain ⟨I_4,I_4_⟩:=exV fun (s_2:Int) (σ:St)=>(σ.env 0=uL .shr a_∧σ.env 1=uL .shr b_∧σ.env 5=uI s_2)∧σ.mem=mem0
  obtain ⟨X_5,X_5_⟩:=exV fun (r_24:(Unit) ⊕ (Unit)) (out:Out)=>Sum.elim (fun r_24=>∃ σ:St,out=.ret σ∧σ.env 4=uB false∧σ.mem=mem0) (fun r_24=>∃ σ:St,out=.exit 0 σ∧σ.mem=mem0) r_24
  refine loopP ({ hd:=[0,1,5],bx:=[],ex:=[],rt:=[4] }) I_4 X_5 h_25 (by exact rfl) ?_ ?_ ?_
  ·rw [I_4_]
   exact ⟨by simp [zac,zab,h_1],by simp [zab,h_1]⟩
  ·intro s_2 σ_6 a_3 hI hp
   rw [I_4_] at hI
   obtain ⟨q_8,q_7⟩:=hI
   try simp [h_1,q_8,q_7]
   rcases zad hp with ⟨h_9,hp⟩|⟨h_9,hp⟩
   ·try simp at h_9
    obtain ⟨e_10,h_11,hp⟩:=zaa hp
    have b_12:=at_lo h_11
    have b_13:=at_hi h_11
    try simp at b_12 b_13
    have c_14:=seg_at' h_11 0 1 (by decide) (ds:=[.sc (.int .i64 e_10)]) rfl
    try simp at c_14
    obtain ⟨e_15,h_16,hp⟩:=zaa hp
    have b_17:=at_lo h_16
    have b_18:=at_hi h_16
    try simp at b_17 b_18
    have c_19:=seg_at' h_16 0 1 (by decide) (ds:=[.sc (.int .i64 e_15)]) rfl
    try simp at c_19
    obtain ⟨y_20,h_21,hp⟩:=zaa hp
    have c_22:=zoe h_21
    simp at c_22
    try simp [h_1,q_8,q_7,h_9,b_12,b_13,c_14,b_17,b_18,c_19,c_22]
    rcases zad hp with ⟨h_23,hp⟩|⟨h_23,hp⟩
    ·try simp at h_23
     cases hp
     try simp [h_1,q_8,q_7,h_9,h_23]
     refine zaf ?_
     rw [I_4_]
     exact ⟨by simp [zac,zab,h_1,q_8,q_7,h_9,h_23],by simp [zab,h_1,q_8,q_7,h_9,h_23]⟩
    ·try simp at h_23
     cases hp
     try simp [h_1,q_8,q_7,h_9,h_23]
     refine zaq ?_
     rw [X_5_]
     exact ⟨_,rfl,by simp [zac,zab,h_1,q_8,q_7,h_9,h_23],by simp [zab,h_1,q_8,q_7,h_9,h_23]⟩
   ·try simp at h_9
    cases hp
    try simp [h_1,q_8,q_7,h_9]
    refine zai ?_
    rw [X_5_]
    exact ⟨_,rfl,by simp [zab,h_1,q_8,q_7,h_9]⟩
  ·intro out hX
   rw [X_5_] at hX
   rcases r_24 with r_24 | r_24
   ·simp only [Sum.elim_inl,Sum.elim_inr] at hX hp
    obtain ⟨σ_26,rfl,q_28,q_27⟩:=hX
    cases hp
    simp [Goal,FnEnd,h_1,q_28,q_27]
   ·simp only [Sum.elim_inl,Sum.elim_inr] at hX hp
    obtain ⟨σ_29,rfl,q_30⟩:=hX
    cases hp
    simp [Goal,FnEnd,h_1,q_30]
theorem pc166:PC Tryz.prog 166 C166:=pc_of (g:=g166) (zag _ g166_s.2.1 ⟨pc158,trivial⟩) (ent Tryz.func166) fun x y h=>w166 h

def C157:List AV→Option AV:=specP (X:=TNode × TNode × Unit) fun x=>zfc x.1 x.2.1
theorem C157_eq {x_ y_} {y} (h:zfc x_ y_=some y):C157 [av .shr x_,av .shr y_]=some (Res.res y):=zah (x:=(x_,y_,())) h
def g157:Cfg:={ P:=Tryz.prog,take:=[],keep:=[],gho:=[],ctx:=[(158,C158),(166,C166)] }
@[simp] theorem g157_s:type_of% (cfg_s (g:=g157) rfl):=cfg_s rfl
theorem w157 {x_ y_} {y} (hp:zfc x_ y_=some y):∃ m,callo g157 0 157 [av .shr x_,av .shr y_] mem0=some (Res.res y,m):=by
 refine st0 [.tmp 4] Tryz.func157 ?_
 unfold zfc at hp
 obtain ⟨y_1,h_2,hp⟩:=zaa hp
 have c_3:=C166_eq h_2
 simp at c_3
 simp [Tryz.f157,c_3]
 rcases zad hp with ⟨h_4,hp⟩|⟨h_4,hp⟩
 ·try simp at h_4
  obtain ⟨y_5,h_6,hp⟩:=zaa hp
  have c_7:=C166_eq h_6
  simp at c_7
  try simp [h_4,c_7]
  rcases zad hp with ⟨h_8,hp⟩|⟨h_8,hp⟩
  ·try simp at h_8
   obtain ⟨y_9,h_10,hp⟩:=zaa hp
   have c_11:=zoe h_10
   simp at c_11
   try simp [h_4,h_8,c_11]
   rcases zad hp with ⟨h_12,hp⟩|⟨h_12,hp⟩
   ·try simp at h_12
    obtain ⟨y_13,h_14,hp⟩:=zaa hp
    have c_15:=zoe h_14
    simp at c_15
    cases hp
    simp [Goal,FnEnd,h_4,h_8,h_12,c_15]
   ·try simp at h_12
    cases hp
    simp [Goal,FnEnd,h_4,h_8,h_12]
  ·try simp at h_8
   cases hp
   simp [Goal,FnEnd,h_4,h_8]
 ·try simp at h_4
  cases hp
  simp [Goal,FnEnd,h_4]
theorem pc157:PC Tryz.prog 157 C157:=pc_of (g:=g157) (zag _ g157_s.2.1 ⟨pc158,pc166,trivial⟩) (ent Tryz.func157) fun x y h=>w157 h

def C143:List AV→Option AV:=specP (X:=TStructure × TStructure × (List Int) × Unit) fun x=>zdt x.1 x.2.1 x.2.2.1
theorem C143_eq {s t to_} {y} (h:zdt s t to_=some y):C143 [av .shr s,av .shr t,av .shr to_]=some (Res.res y):=zah (x:=(s,t,to_,())) h
def g143:Cfg:={ P:=Tryz.prog,take:=[],keep:=[((143,5),{ hd:=[2,3,4,7,8],bx:=[],ex:=[],rt:=[6] })],gho:=[],ctx:=[(103,C103),(157,C157),(158,C158)] }
@[simp] theorem g143_s:type_of% (cfg_s (g:=g143) rfl):=cfg_s rfl
theorem w143 {s t to_} {y} (hp:zdt s t to_=some y):∃ m,callo g143 0 143 [av .shr s,av .shr t,av .shr to_] mem0=some (Res.res y,m):=by
 refine st0 [.tmp 6] Tryz.func143 ?_
 unfold zdt at hp
 obtain ⟨e_1,h_2,hp⟩:=zaa hp
 have b_3:=at_lo h_2
 have b_4:=at_hi h_2
 try simp at b_3 b_4
 have c_5:=seg_at' h_2 0 4 (by decide) (ds:=[.sl e_1.vars.length (encL e_1.vars),.sl e_1.reach.length (encL e_1.reach),.sc (.int .i64 e_1.shared),.sc (.int .i64 e_1.many)]) rfl
 try simp at c_5
 obtain ⟨e_6,h_7,hp⟩:=zaa hp
 have b_8:=at_lo h_7
 have b_9:=at_hi h_7
 try simp at b_8 b_9
 have c_10:=seg_at' h_7 0 1 (by decide) (ds:=[.sc (.int .i64 e_6)]) rfl
 try simp at c_10
 obtain ⟨e_11,h_12,hp⟩:=zaa hp
 have b_13:=at_lo h_12
 have b_14:=at_hi h_12
 try simp at b_13 b_14
 have c_15:=seg_at' h_12 0 4 (by decide) (ds:=[.sl e_11.vars.length (encL e_11.vars),.sl e_11.reach.length (encL e_11.reach),.sc (.int .i64 e_11.shared),.sc (.int .i64 e_11.many)]) rfl
 try simp at c_15
 obtain ⟨y_16,h_17,hp⟩:=zaa hp
 have c_18:=C157_eq h_17
 simp at c_18
 simp [Tryz.f143,b_3,b_4,c_5,b_8,b_9,c_10,b_13,b_14,c_15,c_18]
 rcases zad hp with ⟨h_19,hp⟩|⟨h_19,hp⟩
 ·try simp at h_19
  try simp [h_19]
  obtain ⟨r_91,h_92,hp⟩:=zaa hp
  obtain ⟨I_22,I_22_⟩:=exV fun (s_20:Int) (σ:St)=>(σ.env 2=uL .shr to_∧σ.env 3=uP (1,3)∧σ.env 4=uP (1,4)∧σ.env 7=uI (subI (to_.length:Int) 1)∧σ.env 8=uI s_20∧σ.mem (1,3)=some [cL .shr s.nodes,cL .shr s.next]∧σ.mem (1,4)=some [cL .shr t.nodes,cL .shr t.next])∧NoBox [(1,3),(1,4)] σ.mem
  obtain ⟨X_23,X_23_⟩:=exV fun (r_91:(Unit) ⊕ (Unit)) (out:Out)=>Sum.elim (fun r_91=>∃ σ:St,out=.ret σ∧(σ.env 6=uB false∧σ.mem (1,3)=some [cL .shr s.nodes,cL .shr s.next]∧σ.mem (1,4)=some [cL .shr t.nodes,cL .shr t.next])∧NoBox [(1,3),(1,4)] σ.mem) (fun r_91=>∃ σ:St,out=.exit 0 σ∧(σ.mem (1,3)=some [cL .shr s.nodes,cL .shr s.next]∧σ.mem (1,4)=some [cL .shr t.nodes,cL .shr t.next])∧NoBox [(1,3),(1,4)] σ.mem) r_91
  refine loopP ({ hd:=[2,3,4,7,8],bx:=[],ex:=[],rt:=[6] }) I_22 X_23 h_92 (by exact rfl) ?_ ?_ ?_
  ·rw [I_22_]
   exact ⟨by simp [zac,zab,h_19],NoBox.restrict (by intro k hk hb;simp at hk hb;simp [hk,hb,h_19])⟩
  ·intro s_20 σ_24 a_21 hI hp
   rw [I_22_] at hI
   obtain ⟨q_26,hn_25⟩:=hI
   try simp [h_19,q_26]
   rcases zad hp with ⟨h_27,hp⟩|⟨h_27,hp⟩
   ·try simp at h_27
    obtain ⟨y_28,h_29,hp⟩:=zaa hp
    have c_30:=zlr h_29
    simp at c_30
    obtain ⟨e_31,h_32,hp⟩:=zaa hp
    cases Option.some.inj (h_7.symm.trans h_32)
    have b_33:=at_lo h_7
    have b_34:=at_hi h_7
    try simp at b_33 b_34
    have c_35:=seg_at' h_7 0 1 (by decide) (ds:=[.sc (.int .i64 e_6)]) rfl
    try simp at c_35
    obtain ⟨e_36,h_37,hp⟩:=zaa hp
    have b_38:=at_lo h_37
    have b_39:=at_hi h_37
    try simp at b_38 b_39
    have c_40:=seg_at' h_37 0 1 (by decide) (ds:=[.sc (.int .i64 e_36)]) rfl
    try simp at c_40
    obtain ⟨y_41,h_42,hp⟩:=zaa hp
    have c_43:=zlr h_42
    simp at c_43
    obtain ⟨y_44,h_45,hp⟩:=zaa hp
    have c_46:=zoe h_45
    simp at c_46
    try simp [h_19,q_26,h_27,c_30,b_33,b_34,c_35,b_38,b_39,c_40,c_43,c_46]
    rcases zad hp with ⟨h_47,hp⟩|⟨h_47,hp⟩
    ·try simp at h_47
     obtain ⟨y_48,h_49,hp⟩:=zaa hp
     have c_50:=zlr h_49
     simp at c_50
     obtain ⟨e_51,h_52,hp⟩:=zaa hp
     cases Option.some.inj (h_37.symm.trans h_52)
     have b_53:=at_lo h_37
     have b_54:=at_hi h_37
     try simp at b_53 b_54
     have c_55:=seg_at' h_37 0 1 (by decide) (ds:=[.sc (.int .i64 e_36)]) rfl
     try simp at c_55
     obtain ⟨e_56,h_57,hp⟩:=zaa hp
     cases Option.some.inj (h_7.symm.trans h_57)
     have b_58:=at_lo h_7
     have b_59:=at_hi h_7
     try simp at b_58 b_59
     have c_60:=seg_at' h_7 0 1 (by decide) (ds:=[.sc (.int .i64 e_6)]) rfl
     try simp at c_60
     obtain ⟨y_61,h_62,hp⟩:=zaa hp
     have c_63:=zlr h_62
     simp at c_63
     obtain ⟨y_64,h_65,hp⟩:=zaa hp
     have c_66:=zoe h_65
     simp at c_66
     try simp [h_19,q_26,h_27,h_47,c_50,b_53,b_54,c_55,b_58,b_59,c_60,c_63,c_66]
     rcases zad hp with ⟨h_67,hp⟩|⟨h_67,hp⟩
     ·try simp at h_67
      try simp [h_19,q_26,h_27,h_47,h_67]
      rcases zad hp with ⟨h_68,hp⟩|⟨h_68,hp⟩
      ·try simp at h_68
       obtain ⟨e_69,h_70,hp⟩:=zaa hp
       cases Option.some.inj (h_37.symm.trans h_70)
       have b_71:=at_lo h_37
       have b_72:=at_hi h_37
       try simp at b_71 b_72
       have c_73:=seg_at' h_37 0 1 (by decide) (ds:=[.sc (.int .i64 e_36)]) rfl
       try simp at c_73
       obtain ⟨e_74,h_75,hp⟩:=zaa hp
       cases Option.some.inj (h_7.symm.trans h_75)
       have b_76:=at_lo h_7
       have b_77:=at_hi h_7
       try simp at b_76 b_77
       have c_78:=seg_at' h_7 0 1 (by decide) (ds:=[.sc (.int .i64 e_6)]) rfl
       try simp at c_78
       try simp [h_19,q_26,h_27,h_47,h_67,h_68,b_71,b_72,c_73,b_76,b_77,c_78]
       rcases zad hp with ⟨h_79,hp⟩|⟨h_79,hp⟩
       ·try simp at h_79
        obtain ⟨e_80,h_81,hp⟩:=zaa hp
        cases Option.some.inj (h_7.symm.trans h_81)
        have b_82:=at_lo h_7
        have b_83:=at_hi h_7
        try simp at b_82 b_83
        have c_84:=seg_at' h_7 0 1 (by decide) (ds:=[.sc (.int .i64 e_6)]) rfl
        try simp at c_84
        obtain ⟨e_85,h_86,hp⟩:=zaa hp
        cases Option.some.inj (h_12.symm.trans h_86)
        have b_87:=at_lo h_12
        have b_88:=at_hi h_12
        try simp at b_87 b_88
        have c_89:=seg_at' h_12 3 1 (by decide) (ds:=[.sc (.int .i64 e_11.many)]) rfl
        try simp at c_89
        try simp [h_19,q_26,h_27,h_47,h_67,h_68,h_79,b_82,b_83,c_84,b_87,b_88,c_89]
        rcases zad hp with ⟨h_90,hp⟩|⟨h_90,hp⟩
        ·try simp at h_90
         cases hp
         try simp [h_19,q_26,h_27,h_47,h_67,h_68,h_79,h_90]
         refine zaq ?_
         rw [X_23_]
         exact ⟨_,rfl,by simp [zac,zab,h_19,q_26,h_27,h_47,h_67,h_68,h_79,h_90],NoBox.restrict (by intro k hk hb;simp at hk hb;simp [hk,hb,h_19,q_26,h_27,h_47,h_67,h_68,h_79,h_90,hn_25 k (by simp [hk,hb])])⟩
        ·try simp at h_90
         cases hp
         try simp [h_19,q_26,h_27,h_47,h_67,h_68,h_79,h_90]
         refine zaf ?_
         rw [I_22_]
         exact ⟨by simp [zac,zab,h_19,q_26,h_27,h_47,h_67,h_68,h_79,h_90],NoBox.restrict (by intro k hk hb;simp at hk hb;simp [hk,hb,h_19,q_26,h_27,h_47,h_67,h_68,h_79,h_90,hn_25 k (by simp [hk,hb])])⟩
       ·try simp at h_79
        cases hp
        try simp [h_19,q_26,h_27,h_47,h_67,h_68,h_79]
        refine zaf ?_
        rw [I_22_]
        exact ⟨by simp [zac,zab,h_19,q_26,h_27,h_47,h_67,h_68,h_79],NoBox.restrict (by intro k hk hb;simp at hk hb;simp [hk,hb,h_19,q_26,h_27,h_47,h_67,h_68,h_79,hn_25 k (by simp [hk,hb])])⟩
      ·try simp at h_68
       cases hp
       try simp [h_19,q_26,h_27,h_47,h_67,h_68]
       refine zaf ?_
       rw [I_22_]
       exact ⟨by simp [zac,zab,h_19,q_26,h_27,h_47,h_67,h_68],NoBox.restrict (by intro k hk hb;simp at hk hb;simp [hk,hb,h_19,q_26,h_27,h_47,h_67,h_68,hn_25 k (by simp [hk,hb])])⟩
     ·try simp at h_67
      cases hp
      try simp [h_19,q_26,h_27,h_47,h_67]
      refine zaq ?_
      rw [X_23_]
      exact ⟨_,rfl,by simp [zac,zab,h_19,q_26,h_27,h_47,h_67],NoBox.restrict (by intro k hk hb;simp at hk hb;simp [hk,hb,h_19,q_26,h_27,h_47,h_67,hn_25 k (by simp [hk,hb])])⟩
    ·try simp at h_47
     cases hp
     try simp [h_19,q_26,h_27,h_47]
     refine zaq ?_
     rw [X_23_]
     exact ⟨_,rfl,by simp [zac,zab,h_19,q_26,h_27,h_47],NoBox.restrict (by intro k hk hb;simp at hk hb;simp [hk,hb,h_19,q_26,h_27,h_47,hn_25 k (by simp [hk,hb])])⟩
   ·try simp at h_27
    cases hp
    try simp [h_19,q_26,h_27]
    refine zai ?_
    rw [X_23_]
    exact ⟨_,rfl,by simp [zac,zab,h_19,q_26,h_27],NoBox.restrict (by intro k hk hb;simp at hk hb;simp [hk,hb,h_19,q_26,h_27,hn_25 k (by simp [hk,hb])])⟩
  ·intro out hX
   rw [X_23_] at hX
   rcases r_91 with r_91 | r_91
   ·simp only [Sum.elim_inl,Sum.elim_inr] at hX hp
    obtain ⟨σ_93,rfl,q_95,hn_94⟩:=hX
    cases hp
    simp [Goal,FnEnd,h_19,q_95]
   ·simp only [Sum.elim_inl,Sum.elim_inr] at hX hp
    obtain ⟨σ_96,rfl,q_98,hn_97⟩:=hX
    cases hp
    simp [Goal,FnEnd,h_19,q_98]
 ·try simp at h_19
  cases hp
  simp [Goal,FnEnd,h_19]
theorem pc143:PC Tryz.prog 143 C143:=pc_of (g:=g143) (zag _ g143_s.2.1 ⟨pc103,pc157,pc158,trivial⟩) (ent Tryz.func143) fun x y h=>w143 h

def C142:List AV→Option AV:=specP (X:=TStructure × TStructure × (List Int) × Unit) fun x=>zdd x.1 x.2.1 x.2.2.1
theorem C142_eq {s t to_} {y} (h:zdd s t to_=some y):C142 [av .shr s,av .shr t,av .shr to_]=some (Res.res y):=zah (x:=(s,t,to_,())) h
def g142:Cfg:={ P:=Tryz.prog,take:=[],keep:=[((142,4),{ hd:=[2,3,4,7],bx:=[],ex:=[2,4],rt:=[6] }),((142,9),{ hd:=[2,4,8],bx:=[],ex:=[],rt:=[6] })],gho:=[],ctx:=[(66,C66),(87,C87),(143,C143)] }
@[simp] theorem g142_s:type_of% (cfg_s (g:=g142) rfl):=cfg_s rfl
theorem w142 {s t to_} {y} (hp:zdd s t to_=some y):∃ m,callo g142 0 142 [av .shr s,av .shr t,av .shr to_] mem0=some (Res.res y,m):=by
 refine st0 [.tmp 6] Tryz.func142 ?_
 unfold zdd at hp
 simp [Tryz.f142]
 rcases zad hp with ⟨h_1,hp⟩|⟨h_1,hp⟩
 ·try simp at h_1
  cases hp
  simp [Goal,FnEnd,h_1]
 ·try simp at h_1
  try simp [h_1]
  obtain ⟨r_30,h_31,hp⟩:=zaa hp
  obtain ⟨I_4,I_4_⟩:=exV fun (s_2:Int) (σ:St)=>(σ.env 2=uL .shr to_∧σ.env 3=uP (1,3)∧σ.env 4=uP (1,4)∧σ.env 7=uI s_2∧σ.mem (1,3)=some [cL .shr s.nodes,cL .shr s.next]∧σ.mem (1,4)=some [cL .shr t.nodes,cL .shr t.next])∧NoBox [(1,3),(1,4)] σ.mem
  obtain ⟨X_5,X_5_⟩:=exV fun (r_30:(Unit) ⊕ (Unit)) (out:Out)=>Sum.elim (fun r_30=>∃ σ:St,out=.ret σ∧(σ.env 6=uB false∧σ.mem (1,3)=some [cL .shr s.nodes,cL .shr s.next]∧σ.mem (1,4)=some [cL .shr t.nodes,cL .shr t.next])∧NoBox [(1,3),(1,4)] σ.mem) (fun r_30=>∃ σ:St,out=.exit 0 σ∧(σ.env 2=uL .shr to_∧σ.env 4=uP (1,4)∧σ.mem (1,3)=some [cL .shr s.nodes,cL .shr s.next]∧σ.mem (1,4)=some [cL .shr t.nodes,cL .shr t.next])∧NoBox [(1,3),(1,4)] σ.mem) r_30
  refine loopP ({ hd:=[2,3,4,7],bx:=[],ex:=[2,4],rt:=[6] }) I_4 X_5 h_31 (by exact rfl) ?_ ?_ ?_
  ·rw [I_4_]
   exact ⟨by simp [zac,zab,h_1],NoBox.restrict (by intro k hk hb;simp at hk hb;simp [hk,hb,h_1])⟩
  ·intro s_2 σ_6 a_3 hI hp
   rw [I_4_] at hI
   obtain ⟨q_8,hn_7⟩:=hI
   try simp [h_1,q_8]
   rcases zad hp with ⟨h_9,hp⟩|⟨h_9,hp⟩
   ·try simp at h_9
    obtain ⟨e_10,h_11,hp⟩:=zaa hp
    have b_12:=at_lo h_11
    have b_13:=at_hi h_11
    try simp at b_12 b_13
    have c_14:=seg_at' h_11 0 1 (by decide) (ds:=[.sc (.int .i64 e_10)]) rfl
    try simp at c_14
    obtain ⟨y_15,h_16,hp⟩:=zaa hp
    have c_17:=zgn h_16
    simp at c_17
    try simp [h_1,q_8,h_9,b_12,b_13,c_14,c_17]
    rcases zad hp with ⟨h_18,hp⟩|⟨h_18,hp⟩
    ·try simp at h_18
     obtain ⟨z_19,h_20,hp⟩:=zaa hp
     have c_22:=slc_1 h_20
     have c_23:=slc_2 h_20
     have c_24:=slc_3 h_20
     have c_25:=slc_4 h_20
     try simp at c_22 c_23 c_24
     try simp [c_24] at c_25
     obtain ⟨y_26,h_27,hp⟩:=zaa hp
     have c_28:=C143_eq h_27
     simp at c_28
     try simp [h_1,q_8,h_9,h_18,c_22,c_23,c_24,c_25,c_28]
     rcases zad hp with ⟨h_29,hp⟩|⟨h_29,hp⟩
     ·try simp at h_29
      cases hp
      try simp [h_1,q_8,h_9,h_18,h_29]
      refine zaf ?_
      rw [I_4_]
      exact ⟨by simp [zac,zab,h_1,q_8,h_9,h_18,h_29],NoBox.restrict (by intro k hk hb;simp at hk hb;simp [hk,hb,h_1,q_8,h_9,h_18,h_29,hn_7 k (by simp [hk,hb])])⟩
     ·try simp at h_29
      cases hp
      try simp [h_1,q_8,h_9,h_18,h_29]
      refine zaq ?_
      rw [X_5_]
      exact ⟨_,rfl,by simp [zac,zab,h_1,q_8,h_9,h_18,h_29],NoBox.restrict (by intro k hk hb;simp at hk hb;simp [hk,hb,h_1,q_8,h_9,h_18,h_29,hn_7 k (by simp [hk,hb])])⟩
    ·try simp at h_18
     cases hp
     try simp [h_1,q_8,h_9,h_18]
     refine zaq ?_
     rw [X_5_]
     exact ⟨_,rfl,by simp [zac,zab,h_1,q_8,h_9,h_18],NoBox.restrict (by intro k hk hb;simp at hk hb;simp [hk,hb,h_1,q_8,h_9,h_18,hn_7 k (by simp [hk,hb])])⟩
   ·try simp at h_9
    cases hp
    try simp [h_1,q_8,h_9]
    refine zai ?_
    rw [X_5_]
    exact ⟨_,rfl,by simp [zac,zab,h_1,q_8,h_9],NoBox.restrict (by intro k hk hb;simp at hk hb;simp [hk,hb,h_1,q_8,h_9,hn_7 k (by simp [hk,hb])])⟩
  ·intro out hX
   rw [X_5_] at hX
   rcases r_30 with r_30 | r_30
   ·simp only [Sum.elim_inl,Sum.elim_inr] at hX hp
    obtain ⟨σ_32,rfl,q_34,hn_33⟩:=hX
    cases hp
    simp [Goal,FnEnd,h_1,q_34]
   ·simp only [Sum.elim_inl,Sum.elim_inr] at hX hp
    obtain ⟨σ_35,rfl,q_37,hn_36⟩:=hX
    try simp [h_1,q_37]
    obtain ⟨r_50,h_51,hp⟩:=zaa hp
    obtain ⟨I_40,I_40_⟩:=exV fun (s_38:Int) (σ:St)=>(σ.env 2=uL .shr to_∧σ.env 4=uP (1,4)∧σ.env 8=uI s_38∧σ.mem (1,3)=some [cL .shr s.nodes,cL .shr s.next]∧σ.mem (1,4)=some [cL .shr t.nodes,cL .shr t.next])∧NoBox [(1,3),(1,4)] σ.mem
    obtain ⟨X_41,X_41_⟩:=exV fun (r_50:(Bool) ⊕ (Unit)) (out:Out)=>Sum.elim (fun r_50=>∃ σ:St,out=.ret σ∧(σ.env 6=uB r_50∧σ.mem (1,3)=some [cL .shr s.nodes,cL .shr s.next]∧σ.mem (1,4)=some [cL .shr t.nodes,cL .shr t.next])∧NoBox [(1,3),(1,4)] σ.mem) (fun r_50=>∃ σ:St,out=.exit 2 σ∧(σ.mem (1,3)=some [cL .shr s.nodes,cL .shr s.next]∧σ.mem (1,4)=some [cL .shr t.nodes,cL .shr t.next])∧NoBox [(1,3),(1,4)] σ.mem) r_50
    refine loopP ({ hd:=[2,4,8],bx:=[],ex:=[],rt:=[6] }) I_40 X_41 h_51 (by exact rfl) ?_ ?_ ?_
    ·rw [I_40_]
     exact ⟨by simp [zac,zab,h_1,q_37],NoBox.restrict (by intro k hk hb;simp at hk hb;simp [hk,hb,h_1,q_37,hn_36 k (by simp [hk,hb])])⟩
    ·intro s_38 σ_42 a_39 hI hp
     rw [I_40_] at hI
     obtain ⟨q_44,hn_43⟩:=hI
     try simp [h_1,q_44]
     rcases zad hp with ⟨h_45,hp⟩|⟨h_45,hp⟩
     ·try simp at h_45
      obtain ⟨y_46,h_47,hp⟩:=zaa hp
      have c_48:=C87_eq h_47
      simp at c_48
      try simp [h_1,q_44,h_45,c_48]
      rcases zad hp with ⟨h_49,hp⟩|⟨h_49,hp⟩
      ·try simp at h_49
       cases hp
       try simp [h_1,q_44,h_45,h_49]
       refine zaf ?_
       rw [I_40_]
       exact ⟨by simp [zac,zab,h_1,q_44,h_45,h_49],NoBox.restrict (by intro k hk hb;simp at hk hb;simp [hk,hb,h_1,q_44,h_45,h_49,hn_43 k (by simp [hk,hb])])⟩
      ·try simp at h_49
       cases hp
       try simp [h_1,q_44,h_45,h_49]
       refine zaq ?_
       rw [X_41_]
       exact ⟨_,rfl,by simp [zac,zab,h_1,q_44,h_45,h_49],NoBox.restrict (by intro k hk hb;simp at hk hb;simp [hk,hb,h_1,q_44,h_45,h_49,hn_43 k (by simp [hk,hb])])⟩
     ·try simp at h_45
      cases hp
      try simp [h_1,q_44,h_45]
      refine zai ?_
      rw [X_41_]
      exact ⟨_,rfl,by simp [zac,zab,h_1,q_44,h_45],NoBox.restrict (by intro k hk hb;simp at hk hb;simp [hk,hb,h_1,q_44,h_45,hn_43 k (by simp [hk,hb])])⟩
    ·intro out hX
     rw [X_41_] at hX
     rcases r_50 with r_50 | r_50
     ·simp only [Sum.elim_inl,Sum.elim_inr] at hX hp
      obtain ⟨σ_52,rfl,q_54,hn_53⟩:=hX
      cases hp
      simp [Goal,FnEnd,h_1,q_54]
     ·simp only [Sum.elim_inl,Sum.elim_inr] at hX hp
      obtain ⟨σ_55,rfl,q_57,hn_56⟩:=hX
      cases hp
      simp [Goal,FnEnd,h_1,q_57]
theorem pc142:PC Tryz.prog 142 C142:=pc_of (g:=g142) (zag _ g142_s.2.1 ⟨pc66,pc87,pc143,trivial⟩) (ent Tryz.func142) fun x y h=>w142 h

abbrev G114 (g:Cfg):Prop:=Has Tryz.prog g 114 Tryz.f114 [41] [(4,{ hd:=[2,3,4,8],bx:=[],ex:=[],rt:=[6,7] })] [(142,C142),(143,C143)] []
theorem wI114 {g:Cfg} (G:G114 g) (fu:Nat):∀ {d:Nat} {mem:Mem} (hT:Tight d mem)  {s:TStructure} {t:TStructure} {to_:(List Int)} {m_0:Md} (hm_0:LentM m_0) {m_1:Md} (hm_1:LentM m_1) {m_2:Md} (hm_2:LentM m_2) {y} (hp:fixN zbp fu (s,t,to_,())=some y),∃ r,callo g d 114 [av m_0 s,av m_1 t,av m_2 to_] mem=some (r,mem)∧∃ me_0:Md,r=.tu [tupM me_0 y.1,tup y.2]:=by
 have gP:=G.P;have gt:=G.tk;have gr:=G.ro;have gg:=G.gh
 have i_114:=G.no
 have k_4:=G.kp (4,{ hd:=[2,3,4,8],bx:=[],ex:=[],rt:=[6,7] }) (by simp)
 have c_142:=G.cs (142,C142) (by simp)
 have c_143:=G.cs (143,C143) (by simp)
 induction fu with
 | zero=>intros;exact absurd ‹fixN _ 0 _=some _› (by simp [fixN])
 | succ fu ih =>
  intro d mem hT s t to_ m_0 hm_0 m_1 hm_1 m_2 hm_2 y hp
  have hT2:memKill (fun k=>decide (d < k.1)) mem=mem:=hT
  have hm0:∀ t,mem (d+1,t)=none:=fun t=>hT.none (by simp)
  refine start_ex (Tryz.f114.body.getD .skip) [.tmp 6,.tmp 7] G Tryz.func114 (by kernel_rfl) (by simp [Tryz.ntmps114]) rfl ?_
  replace hp:zdm (fun s t to_=>fixN zbp fu (s,t,to_,())) s t to_=some y:=hp
  unfold zdm at hp
  simp [Tryz.f114,gP,gt,gr,gg,hm0,i_114,hm_0.copy,hm_0.elem,hm_1.copy,hm_1.elem,hm_2.copy,hm_2.elem]
  rcases zad hp with ⟨h_1,hp⟩|⟨h_1,hp⟩
  ·try simp at h_1
   obtain ⟨y_2,h_3,hp⟩:=zaa hp
   have c_4:=C142_eq h_3
   simp at c_4
   cases hp
   simp [Goal,FnEndE,zbe,retR,rsrc,RSrc.val,nodupR,nodup,tupPart,gP,gt,gr,gg,hm0,c_142,i_114,hm_0.copy,hm_0.elem,hm_1.copy,hm_1.elem,hm_2.copy,hm_2.elem,h_1,c_4,hT2]
  ·try simp at h_1
   try simp [gP,gt,gr,gg,hm0,c_142,c_143,i_114,hm_0.copy,hm_0.elem,hm_1.copy,hm_1.elem,hm_2.copy,hm_2.elem,h_1]
   obtain ⟨r_27,h_28,hp⟩:=zaa hp
   obtain ⟨I_7,I_7_⟩:=exV fun (s_5:Int) (σ:St)=>(σ.env 2=uL m_2 to_∧σ.env 3=uP (d+1,3)∧σ.env 4=uP (d+1,4)∧σ.env 8=uI s_5∧σ.mem (d+1,3)=some [cL m_0 s.nodes,cL m_0 s.next]∧σ.mem (d+1,4)=some [cL m_1 t.nodes,cL m_1 t.next])∧Tight (d+1) σ.mem∧Agree d mem σ.mem∧NoBoxD d [(d+1,3),(d+1,4)] σ.mem
   obtain ⟨X_8,X_8_⟩:=exV fun (r_27:((List Int) × Bool) ⊕ (Unit)) (out:Out)=>Sum.elim (fun r_27=>∃ σ:St,out=.ret σ∧(σ.env 7=uB r_27.2∧σ.mem (d+1,3)=some [cL m_0 s.nodes,cL m_0 s.next]∧σ.mem (d+1,4)=some [cL m_1 t.nodes,cL m_1 t.next])∧(∃ mq_29:Md,σ.env 6=uL mq_29 r_27.1)∧Tight (d+1) σ.mem∧Agree d mem σ.mem∧NoBoxD d [(d+1,3),(d+1,4)] σ.mem) (fun r_27=>∃ σ:St,out=.exit 0 σ∧(σ.mem (d+1,3)=some [cL m_0 s.nodes,cL m_0 s.next]∧σ.mem (d+1,4)=some [cL m_1 t.nodes,cL m_1 t.next])∧Tight (d+1) σ.mem∧Agree d mem σ.mem∧NoBoxD d [(d+1,3),(d+1,4)] σ.mem) r_27
   refine loopP ({ hd:=[2,3,4,8],bx:=[],ex:=[],rt:=[6,7] }) I_7 X_8 h_28 (by exact k_4) ?_ ?_ ?_
   ·rw [I_7_]
    exact ⟨by simp [zac,zab,gP,gt,gr,gg,hm0,c_142,c_143,i_114,hm_0.copy,hm_0.elem,hm_1.copy,hm_1.elem,hm_2.copy,hm_2.elem,h_1],(by repeat (first | exact zap _ | exact hT.up | exact hT | refine Tight.restrict ?_ | refine Tight.upd ?_ (by simp) (by simp) | refine Tight.killB ?_ | refine zbv ?_)),(by repeat (first | exact fun k hk=>rfl | refine Agree.restrict hT ?_ | refine Agree.upd ?_ (by simp))),NoBoxD.restrict (by intro k hd hk hb;simp at hk hb;simp [hk,hb,gP,gt,gr,gg,hm0,c_142,c_143,i_114,hm_0.copy,hm_0.elem,hm_1.copy,hm_1.elem,hm_2.copy,hm_2.elem,h_1,hT.none hd])⟩
   ·intro s_5 σ_9 a_6 hI hp
    rw [I_7_] at hI
    obtain ⟨q_13,ht_10,ha_11,hn_12⟩:=hI
    try simp [gP,gt,gr,gg,hm0,c_142,c_143,i_114,hm_0.copy,hm_0.elem,hm_1.copy,hm_1.elem,hm_2.copy,hm_2.elem,h_1,q_13]
    rcases zad hp with ⟨h_14,hp⟩|⟨h_14,hp⟩
    ·try simp at h_14
     obtain ⟨_,h_15,hp⟩:=zaa hp
     have b_16:=zbc h_15
     try simp at b_16
     obtain ⟨_,h_17,hp⟩:=zaa hp
     have b_18:=zbc h_17
     try simp at b_18
     obtain ⟨y_19,h_20,hp⟩:=zaa hp
     have c_21:=C143_eq h_20
     simp at c_21
     try simp [gP,gt,gr,gg,hm0,c_142,c_143,i_114,hm_0.copy,hm_0.elem,hm_1.copy,hm_1.elem,hm_2.copy,hm_2.elem,h_1,q_13,h_14,b_16,b_18,c_21]
     rcases zad hp with ⟨h_22,hp⟩|⟨h_22,hp⟩
     ·try simp at h_22
      obtain ⟨y_23,h_24,hp⟩:=zaa hp
      try simp [gP,gt,gr,gg,hm0,c_142,c_143,i_114,hm_0.copy,hm_0.elem,hm_1.copy,hm_1.elem,hm_2.copy,hm_2.elem,h_1,q_13,h_14,h_22]
      refine zpa [av m_0 s,av m_1 t,av .bor (to_ ++ [s_5])] (fun r=>∃ me_25:Md,r=.tu [tupM me_25 y_23.1,tup y_23.2]) (by simp [gP,gt,gr,gg,hm0,c_142,c_143,i_114,hm_0.copy,hm_0.elem,hm_1.copy,hm_1.elem,hm_2.copy,hm_2.elem,h_1,q_13,h_14,h_22]) (ih (by repeat (first | exact ht_10 | exact zap _ | exact hT.up | exact hT | (simp only [q_13];done) | refine Tight.upd ?_ (by simp) (by simp) | refine Tight.killB ?_ | refine zbv ?_)) hm_0 hm_1 (.inr rfl) h_24) ?_
      rintro _ ⟨me_25,rfl⟩
      try simp [gP,gt,gr,gg,hm0,c_142,c_143,i_114,hm_0.copy,hm_0.elem,hm_1.copy,hm_1.elem,hm_2.copy,hm_2.elem,h_1,q_13,h_14,h_22]
      rcases zad hp with ⟨h_26,hp⟩|⟨h_26,hp⟩
      ·try simp at h_26
       cases hp
       try simp [gP,gt,gr,gg,hm0,c_142,c_143,i_114,hm_0.copy,hm_0.elem,hm_1.copy,hm_1.elem,hm_2.copy,hm_2.elem,h_1,q_13,h_14,h_22,h_26]
       refine zaq ?_
       rw [X_8_]
       exact ⟨_,rfl,by simp [zac,zab,gP,gt,gr,gg,hm0,c_142,c_143,i_114,hm_0.copy,hm_0.elem,hm_1.copy,hm_1.elem,hm_2.copy,hm_2.elem,h_1,q_13,h_14,h_22,h_26],⟨me_25.copy,by simp [zac,gP,gt,gr,gg,hm0,c_142,c_143,i_114,hm_0.copy,hm_0.elem,hm_1.copy,hm_1.elem,hm_2.copy,hm_2.elem,h_1,q_13,h_14,h_22,h_26]⟩,(by repeat (first | exact ht_10 | exact zap _ | exact hT.up | exact hT | refine Tight.restrict ?_ | refine Tight.upd ?_ (by simp) (by simp) | refine Tight.killB ?_ | refine zbv ?_)),(by repeat (first | exact ha_11 | exact fun k hk=>rfl | refine Agree.restrict hT ?_ | refine Agree.upd ?_ (by simp))),NoBoxD.restrict (by intro k hd hk hb;simp at hk hb;simp [hk,hb,gP,gt,gr,gg,hm0,c_142,c_143,i_114,hm_0.copy,hm_0.elem,hm_1.copy,hm_1.elem,hm_2.copy,hm_2.elem,h_1,q_13,h_14,h_22,h_26,hn_12 k hd (by simp [hk,hb])])⟩
      ·try simp at h_26
       cases hp
       try simp [gP,gt,gr,gg,hm0,c_142,c_143,i_114,hm_0.copy,hm_0.elem,hm_1.copy,hm_1.elem,hm_2.copy,hm_2.elem,h_1,q_13,h_14,h_22,h_26]
       refine zaf ?_
       rw [I_7_]
       exact ⟨by simp [zac,zab,gP,gt,gr,gg,hm0,c_142,c_143,i_114,hm_0.copy,hm_0.elem,hm_1.copy,hm_1.elem,hm_2.copy,hm_2.elem,h_1,q_13,h_14,h_22,h_26],(by repeat (first | exact ht_10 | exact zap _ | exact hT.up | exact hT | refine Tight.restrict ?_ | refine Tight.upd ?_ (by simp) (by simp) | refine Tight.killB ?_ | refine zbv ?_)),(by repeat (first | exact ha_11 | exact fun k hk=>rfl | refine Agree.restrict hT ?_ | refine Agree.upd ?_ (by simp))),NoBoxD.restrict (by intro k hd hk hb;simp at hk hb;simp [hk,hb,gP,gt,gr,gg,hm0,c_142,c_143,i_114,hm_0.copy,hm_0.elem,hm_1.copy,hm_1.elem,hm_2.copy,hm_2.elem,h_1,q_13,h_14,h_22,h_26,hn_12 k hd (by simp [hk,hb])])⟩
     ·try simp at h_22
      cases hp
      try simp [gP,gt,gr,gg,hm0,c_142,c_143,i_114,hm_0.copy,hm_0.elem,hm_1.copy,hm_1.elem,hm_2.copy,hm_2.elem,h_1,q_13,h_14,h_22]
      refine zaf ?_
      rw [I_7_]
      exact ⟨by simp [zac,zab,gP,gt,gr,gg,hm0,c_142,c_143,i_114,hm_0.copy,hm_0.elem,hm_1.copy,hm_1.elem,hm_2.copy,hm_2.elem,h_1,q_13,h_14,h_22],(by repeat (first | exact ht_10 | exact zap _ | exact hT.up | exact hT | refine Tight.restrict ?_ | refine Tight.upd ?_ (by simp) (by simp) | refine Tight.killB ?_ | refine zbv ?_)),(by repeat (first | exact ha_11 | exact fun k hk=>rfl | refine Agree.restrict hT ?_ | refine Agree.upd ?_ (by simp))),NoBoxD.restrict (by intro k hd hk hb;simp at hk hb;simp [hk,hb,gP,gt,gr,gg,hm0,c_142,c_143,i_114,hm_0.copy,hm_0.elem,hm_1.copy,hm_1.elem,hm_2.copy,hm_2.elem,h_1,q_13,h_14,h_22,hn_12 k hd (by simp [hk,hb])])⟩
    ·try simp at h_14
     cases hp
     try simp [gP,gt,gr,gg,hm0,c_142,c_143,i_114,hm_0.copy,hm_0.elem,hm_1.copy,hm_1.elem,hm_2.copy,hm_2.elem,h_1,q_13,h_14]
     refine zai ?_
     rw [X_8_]
     exact ⟨_,rfl,by simp [zac,zab,gP,gt,gr,gg,hm0,c_142,c_143,i_114,hm_0.copy,hm_0.elem,hm_1.copy,hm_1.elem,hm_2.copy,hm_2.elem,h_1,q_13,h_14],(by repeat (first | exact ht_10 | exact zap _ | exact hT.up | exact hT | refine Tight.restrict ?_ | refine Tight.upd ?_ (by simp) (by simp) | refine Tight.killB ?_ | refine zbv ?_)),(by repeat (first | exact ha_11 | exact fun k hk=>rfl | refine Agree.restrict hT ?_ | refine Agree.upd ?_ (by simp))),NoBoxD.restrict (by intro k hd hk hb;simp at hk hb;simp [hk,hb,gP,gt,gr,gg,hm0,c_142,c_143,i_114,hm_0.copy,hm_0.elem,hm_1.copy,hm_1.elem,hm_2.copy,hm_2.elem,h_1,q_13,h_14,hn_12 k hd (by simp [hk,hb])])⟩
   ·intro out hX
    rw [X_8_] at hX
    rcases r_27 with r_27 | r_27
    ·simp only [Sum.elim_inl,Sum.elim_inr] at hX hp
     obtain ⟨σ_30,rfl,q_35,⟨mq_29,q_31⟩,ht_32,ha_33,hn_34⟩:=hX
     cases hp
     simp [Goal,FnEndE,zbe,retR,rsrc,RSrc.val,nodupR,nodup,tupPart,gP,gt,gr,gg,hm0,c_142,c_143,i_114,hm_0.copy,hm_0.elem,hm_1.copy,hm_1.elem,hm_2.copy,hm_2.elem,h_1,q_35,q_31,zko ha_33 hT]
    ·simp only [Sum.elim_inl,Sum.elim_inr] at hX hp
     obtain ⟨σ_36,rfl,q_40,ht_37,ha_38,hn_39⟩:=hX
     cases hp
     simp [Goal,FnEndE,zbe,retR,rsrc,RSrc.val,nodupR,nodup,tupPart,gP,gt,gr,gg,hm0,c_142,c_143,i_114,hm_0.copy,hm_0.elem,hm_1.copy,hm_1.elem,hm_2.copy,hm_2.elem,h_1,q_40,zko ha_38 hT]

def C74:List AV→Option AV:=specP (X:=TStructure × TStructure × Unit) fun x=>zcd x.1 x.2.1
theorem C74_eq {s t} {y} (h:zcd s t=some y):C74 [av .shr s,av .shr t]=some (Res.res y):=zah (x:=(s,t,())) h
def g74:Cfg:={ P:=Tryz.prog,take:=[(74,8),(114,41)],keep:=[((114,4),{ hd:=[2,3,4,8],bx:=[],ex:=[],rt:=[6,7] })],gho:=[],ctx:=[(142,C142),(143,C143)] }
@[simp] theorem g74_s:type_of% (cfg_s (g:=g74) rfl):=cfg_s rfl
theorem w74 {s t} {y} (hp:zcd s t=some y):∃ m,callo g74 0 74 [av .shr s,av .shr t] mem0=some (Res.res y,m):=by
 have G_114:G114 g74:=⟨rfl,by kernel_rfl,rfl,fun t=>by simp,noAway (fun t=>by simp) (by simp) (fun t=>by simp),by simp [lookN],fun i=>by simp [lookK],by simp [g74,lookK],by simp⟩
 refine st0 [.tmp 4,.tmp 5] Tryz.func74 ?_
 unfold zcd at hp
 obtain ⟨y_1,h_2,hp⟩:=zaa hp
 simp [Tryz.f74]
 refine zpa [av .shr s,av .shr t,av .bor []] (fun r=>∃ me_3:Md,r=.tu [tupM me_3 y_1.1,tup y_1.2]) (by simp) (wI114 G_114 _ (by repeat (first | exact zap _ | exact hT.up | exact hT | (simp only [true_and];done) | refine Tight.upd ?_ (by simp) (by simp) | refine Tight.killB ?_ | refine zbv ?_)) (.inl rfl) (.inl rfl) (.inr rfl) (fixO_some h_2).choose_spec) ?_
 rintro _ ⟨me_3,rfl⟩
 try simp
 rcases zad hp with ⟨h_4,hp⟩|⟨h_4,hp⟩
 ·try simp at h_4
  obtain ⟨_,h_5,hp⟩:=zaa hp
  have b_6:=zbc h_5
  try simp at b_6
  cases hp
  simp [Goal,FnEnd,retR,rsrc,RSrc.val,nodupR,nodup,tupPart,h_4,b_6]
 ·try simp at h_4
  cases hp
  simp [Goal,FnEnd,retR,rsrc,RSrc.val,nodupR,nodup,tupPart,h_4]
theorem pc74:PC Tryz.prog 74 C74:=pc_of (g:=g74) (zag _ g74_s.2.1 ⟨pc142,pc143,trivial⟩) (ent Tryz.func74) fun x y h=>w74 h

def C33:List AV→Option AV:=specP (X:=TStructure × TStructure × Unit) fun x=>zcw x.1 x.2.1
theorem C33_eq {s t} {y} (h:zcw s t=some y):C33 [av .shr s,av .shr t]=some (Res.res y):=zah (x:=(s,t,())) h
def g33:Cfg:={ P:=Tryz.prog,take:=[(33,7)],keep:=[],gho:=[],ctx:=[(74,C74)] }
@[simp] theorem g33_s:type_of% (cfg_s (g:=g33) rfl):=cfg_s rfl
theorem w33 {s t} {y} (hp:zcw s t=some y):∃ m,callo g33 0 33 [av .shr s,av .shr t] mem0=some (Res.res y,m):=by
 refine st0 [.tmp 4] Tryz.func33 ?_
 unfold zcw at hp
 obtain ⟨y_1,h_2,hp⟩:=zaa hp
 have c_3:=C74_eq h_2
 simp at c_3
 cases hp
 simp [Tryz.f33,Goal,FnEnd,c_3]
theorem pc33:PC Tryz.prog 33 C33:=pc_of (g:=g33) (zag _ g33_s.2.1 ⟨pc74,trivial⟩) (ent Tryz.func33) fun x y h=>w33 h

def C76:List AV→Option AV:=specP (X:=THeap × Unit) fun x=>zdy x.1
theorem C76_eq {h_} {y} (h:zdy h_=some y):C76 [av .shr h_]=some (Res.res y):=zah (x:=(h_,())) h
def g76:Cfg:={ P:=Tryz.prog,take:=[],keep:=[((76,2),{ hd:=[1,3],bx:=[],ex:=[],rt:=[2] })],gho:=[],ctx:=[(88,C88)] }
@[simp] theorem g76_s:type_of% (cfg_s (g:=g76) rfl):=cfg_s rfl
theorem w76 {h_} {y} (hp:zdy h_=some y):∃ m,callo g76 0 76 [av .shr h_] mem0=some (Res.res y,m):=by
 refine st0 [.tmp 2] Tryz.func76 ?_
 unfold zdy at hp
 simp [Tryz.f76]
 obtain ⟨r_24,h_25,hp⟩:=zaa hp
 obtain ⟨I_3,I_3_⟩:=exV fun (s_1:Int) (σ:St)=>(σ.env 1=uP (1,1)∧σ.env 3=uI s_1∧σ.mem (1,1)=some [cL .shr h_.vars,cL .shr h_.next])∧NoBox [(1,1)] σ.mem
 obtain ⟨X_4,X_4_⟩:=exV fun (r_24:(Unit) ⊕ (Unit)) (out:Out)=>Sum.elim (fun r_24=>∃ σ:St,out=.ret σ∧(σ.env 2=uB false∧σ.mem (1,1)=some [cL .shr h_.vars,cL .shr h_.next])∧NoBox [(1,1)] σ.mem) (fun r_24=>∃ σ:St,out=.exit 0 σ∧σ.mem (1,1)=some [cL .shr h_.vars,cL .shr h_.next]∧NoBox [(1,1)] σ.mem) r_24
 refine loopP ({ hd:=[1,3],bx:=[],ex:=[],rt:=[2] }) I_3 X_4 h_25 (by exact rfl) ?_ ?_ ?_
 ·rw [I_3_]
  exact ⟨by simp [zac,zab],NoBox.restrict (by intro k hk hb;simp at hk hb;simp [hk,hb])⟩
 ·intro s_1 σ_5 a_2 hI hp
  rw [I_3_] at hI
  obtain ⟨q_7,hn_6⟩:=hI
  try simp [q_7]
  rcases zad hp with ⟨h_8,hp⟩|⟨h_8,hp⟩
  ·try simp at h_8
   obtain ⟨y_9,h_10,hp⟩:=zaa hp
   have c_11:=C88_eq h_10
   simp at c_11
   try simp [q_7,h_8,c_11]
   rcases zad hp with ⟨h_12,hp⟩|⟨h_12,hp⟩
   ·try simp at h_12
    cases hp
    try simp [q_7,h_8,h_12]
    refine zaq ?_
    rw [X_4_]
    exact ⟨_,rfl,by simp [zac,zab,q_7,h_8,h_12],NoBox.restrict (by intro k hk hb;simp at hk hb;simp [hk,hb,q_7,h_8,h_12,hn_6 k (by simp [hk,hb])])⟩
   ·try simp at h_12
    obtain ⟨e_13,h_14,hp⟩:=zaa hp
    have b_15:=at_lo h_14
    have b_16:=at_hi h_14
    try simp at b_15 b_16
    have c_17:=seg_at' h_14 0 1 (by decide) (ds:=[.sc (.int .i64 e_13)]) rfl
    try simp at c_17
    obtain ⟨e_18,h_19,hp⟩:=zaa hp
    have b_20:=at_lo h_19
    have b_21:=at_hi h_19
    try simp at b_20 b_21
    have c_22:=seg_at' h_19 0 1 (by decide) (ds:=[.sc (.int .i64 e_18)]) rfl
    try simp at c_22
    try simp [q_7,h_8,h_12,b_15,b_16,c_17,b_20,b_21,c_22]
    rcases zad hp with ⟨h_23,hp⟩|⟨h_23,hp⟩
    ·try simp at h_23
     cases hp
     try simp [q_7,h_8,h_12,h_23]
     refine zaq ?_
     rw [X_4_]
     exact ⟨_,rfl,by simp [zac,zab,q_7,h_8,h_12,h_23],NoBox.restrict (by intro k hk hb;simp at hk hb;simp [hk,hb,q_7,h_8,h_12,h_23,hn_6 k (by simp [hk,hb])])⟩
    ·try simp at h_23
     cases hp
     try simp [q_7,h_8,h_12,h_23]
     refine zaf ?_
     rw [I_3_]
     exact ⟨by simp [zac,zab,q_7,h_8,h_12,h_23],NoBox.restrict (by intro k hk hb;simp at hk hb;simp [hk,hb,q_7,h_8,h_12,h_23,hn_6 k (by simp [hk,hb])])⟩
  ·try simp at h_8
   cases hp
   try simp [q_7,h_8]
   refine zai ?_
   rw [X_4_]
   exact ⟨_,rfl,by simp [zac,zab,q_7,h_8],NoBox.restrict (by intro k hk hb;simp at hk hb;simp [hk,hb,q_7,h_8,hn_6 k (by simp [hk,hb])])⟩
 ·intro out hX
  rw [X_4_] at hX
  rcases r_24 with r_24 | r_24
  ·simp only [Sum.elim_inl,Sum.elim_inr] at hX hp
   obtain ⟨σ_26,rfl,q_28,hn_27⟩:=hX
   cases hp
   simp [Goal,FnEnd,q_28]
  ·simp only [Sum.elim_inl,Sum.elim_inr] at hX hp
   obtain ⟨σ_29,rfl,q_31,hn_30⟩:=hX
   cases hp
   simp [Goal,FnEnd,q_31]
theorem pc76:PC Tryz.prog 76 C76:=pc_of (g:=g76) (zag _ g76_s.2.1 ⟨pc88,trivial⟩) (ent Tryz.func76) fun x y h=>w76 h
end Go.Proofs


set_option maxHeartbeats 4000000
set_option maxRecDepth 100000
namespace Go.Proofs
open Go.Ev
def C34:List AV→Option AV:=specP (X:=Int × THeap × Unit) fun x=>zft x.1 x.2.1
theorem C34_eq {vars h_} {y} (h:zft vars h_=some y):C34 [av .shr vars,av .shr h_]=some (Res.res y):=zah (x:=(vars,h_,())) h
def g34:Cfg:={ P:=Tryz.prog,take:=[],keep:=[((34,5),{ hd:=[3,5,6],bx:=[],ex:=[3,5],rt:=[4] })],gho:=[],ctx:=[(66,C66),(75,C75),(76,C76),(77,C77)] }
@[simp] theorem g34_s:type_of% (cfg_s (g:=g34) rfl):=cfg_s rfl
theorem w34 {vars h_} {y} (hp:zft vars h_=some y):∃ m,callo g34 0 34 [av .shr vars,av .shr h_] mem0=some (Res.res y,m):=by
 refine st0 [.tmp 4] Tryz.func34 ?_
 unfold zft at hp
 obtain ⟨y_1,h_2,hp⟩:=zaa hp
 have c_3:=zgn h_2
 simp at c_3
 simp [Tryz.f34,c_3]
 rcases zad hp with ⟨h_4,hp⟩|⟨h_4,hp⟩
 ·try simp at h_4
  try simp [h_4]
  rcases zad hp with ⟨h_5,hp⟩|⟨h_5,hp⟩
  ·try simp at h_5
   cases hp
   simp [Goal,FnEnd,h_4,h_5]
  ·try simp at h_5
   try simp [h_4,h_5]
   rcases zad hp with ⟨h_6,hp⟩|⟨h_6,hp⟩
   ·try simp at h_6
    cases hp
    simp [Goal,FnEnd,h_4,h_5,h_6]
   ·try simp at h_6
    obtain ⟨y_7,h_8,hp⟩:=zaa hp
    have c_9:=C75_eq h_8
    simp at c_9
    try simp [h_4,h_5,h_6,c_9]
    rcases zad hp with ⟨h_10,hp⟩|⟨h_10,hp⟩
    ·try simp at h_10
     obtain ⟨y_11,h_12,hp⟩:=zaa hp
     have c_13:=C76_eq h_12
     simp at c_13
     try simp [h_4,h_5,h_6,h_10,c_13]
     rcases zad hp with ⟨h_14,hp⟩|⟨h_14,hp⟩
     ·try simp at h_14
      obtain ⟨y_15,h_16,hp⟩:=zaa hp
      have c_17:=C77_eq h_16
      simp at c_17
      try simp [h_4,h_5,h_6,h_10,h_14,c_17]
      obtain ⟨r_32,h_33,hp⟩:=zaa hp
      obtain ⟨I_20,I_20_⟩:=exV fun (s_18:Int) (σ:St)=>(σ.env 3=uP (1,3)∧σ.env 5=uL .own y_15∧σ.env 6=uI s_18∧σ.mem (1,3)=some [cL .shr h_.vars,cL .shr h_.next])∧NoBox [(1,3)] σ.mem
      obtain ⟨X_21,X_21_⟩:=exV fun (r_32:(Unit) ⊕ (Unit)) (out:Out)=>Sum.elim (fun r_32=>∃ σ:St,out=.ret σ∧(σ.env 4=uB false∧σ.mem (1,3)=some [cL .shr h_.vars,cL .shr h_.next])∧NoBox [(1,3)] σ.mem) (fun r_32=>∃ σ:St,out=.exit 0 σ∧(σ.env 3=uP (1,3)∧σ.env 5=uL .own y_15∧σ.mem (1,3)=some [cL .shr h_.vars,cL .shr h_.next])∧NoBox [(1,3)] σ.mem) r_32
      refine loopP ({ hd:=[3,5,6],bx:=[],ex:=[3,5],rt:=[4] }) I_20 X_21 h_33 (by exact rfl) ?_ ?_ ?_
      ·rw [I_20_]
       exact ⟨by simp [zac,zab,h_4,h_5,h_6,h_10,h_14],NoBox.restrict (by intro k hk hb;simp at hk hb;simp [hk,hb,h_4,h_5,h_6,h_10,h_14])⟩
      ·intro s_18 σ_22 a_19 hI hp
       rw [I_20_] at hI
       obtain ⟨q_24,hn_23⟩:=hI
       try simp [h_4,h_5,h_6,h_10,h_14,q_24]
       rcases zad hp with ⟨h_25,hp⟩|⟨h_25,hp⟩
       ·try simp at h_25
        obtain ⟨e_26,h_27,hp⟩:=zaa hp
        have b_28:=at_lo h_27
        have b_29:=at_hi h_27
        try simp at b_28 b_29
        have c_30:=seg_at' h_27 0 1 (by decide) (ds:=[.sc (.int .i64 e_26)]) rfl
        try simp at c_30
        try simp [h_4,h_5,h_6,h_10,h_14,q_24,h_25,b_28,b_29,c_30]
        rcases zad hp with ⟨h_31,hp⟩|⟨h_31,hp⟩
        ·try simp at h_31
         cases hp
         try simp [h_4,h_5,h_6,h_10,h_14,q_24,h_25,h_31]
         refine zaq ?_
         rw [X_21_]
         exact ⟨_,rfl,by simp [zac,zab,h_4,h_5,h_6,h_10,h_14,q_24,h_25,h_31],NoBox.restrict (by intro k hk hb;simp at hk hb;simp [hk,hb,h_4,h_5,h_6,h_10,h_14,q_24,h_25,h_31,hn_23 k (by simp [hk,hb])])⟩
        ·try simp at h_31
         cases hp
         try simp [h_4,h_5,h_6,h_10,h_14,q_24,h_25,h_31]
         refine zaf ?_
         rw [I_20_]
         exact ⟨by simp [zac,zab,h_4,h_5,h_6,h_10,h_14,q_24,h_25,h_31],NoBox.restrict (by intro k hk hb;simp at hk hb;simp [hk,hb,h_4,h_5,h_6,h_10,h_14,q_24,h_25,h_31,hn_23 k (by simp [hk,hb])])⟩
       ·try simp at h_25
        cases hp
        try simp [h_4,h_5,h_6,h_10,h_14,q_24,h_25]
        refine zai ?_
        rw [X_21_]
        exact ⟨_,rfl,by simp [zac,zab,h_4,h_5,h_6,h_10,h_14,q_24,h_25],NoBox.restrict (by intro k hk hb;simp at hk hb;simp [hk,hb,h_4,h_5,h_6,h_10,h_14,q_24,h_25,hn_23 k (by simp [hk,hb])])⟩
      ·intro out hX
       rw [X_21_] at hX
       rcases r_32 with r_32 | r_32
       ·simp only [Sum.elim_inl,Sum.elim_inr] at hX hp
        obtain ⟨σ_34,rfl,q_36,hn_35⟩:=hX
        cases hp
        simp [Goal,FnEnd,h_4,h_5,h_6,h_10,h_14,q_36]
       ·simp only [Sum.elim_inl,Sum.elim_inr] at hX hp
        obtain ⟨σ_37,rfl,q_39,hn_38⟩:=hX
        cases hp
        simp [Goal,FnEnd,h_4,h_5,h_6,h_10,h_14,q_39]
     ·try simp at h_14
      cases hp
      simp [Goal,FnEnd,h_4,h_5,h_6,h_10,h_14]
    ·try simp at h_10
     cases hp
     simp [Goal,FnEnd,h_4,h_5,h_6,h_10]
 ·try simp at h_4
  cases hp
  simp [Goal,FnEnd,h_4]
theorem pc34:PC Tryz.prog 34 C34:=pc_of (g:=g34) (zag _ g34_s.2.1 ⟨pc66,pc75,pc76,pc77,trivial⟩) (ent Tryz.func34) fun x y h=>w34 h

def C18:List AV→Option AV:=specP (X:=TStructure × THeap × Unit) fun x=>zeb x.1 x.2.1
theorem C18_eq {t h_} {y} (h:zeb t h_=some y):C18 [av .shr t,av .shr h_]=some (Res.res y):=zah (x:=(t,h_,())) h
def g18:Cfg:={ P:=Tryz.prog,take:=[],keep:=[],gho:=[],ctx:=[(33,C33),(45,C45)] }
@[simp] theorem g18_s:type_of% (cfg_s (g:=g18) rfl):=cfg_s rfl
theorem w18 {t h_} {y} (hp:zeb t h_=some y):∃ m,callo g18 0 18 [av .shr t,av .shr h_] mem0=some (Res.res y,m):=by
 refine st0 [.tmp 4] Tryz.func18 ?_
 unfold zeb at hp
 obtain ⟨y_1,h_2,hp⟩:=zaa hp
 have c_3:=C45_eq h_2
 simp at c_3
 obtain ⟨y_4,h_5,hp⟩:=zaa hp
 have c_6:=C33_eq h_5
 simp at c_6
 cases hp
 simp [Tryz.f18,Goal,FnEnd,c_3,c_6]
theorem pc18:PC Tryz.prog 18 C18:=pc_of (g:=g18) (zag _ g18_s.2.1 ⟨pc33,pc45,trivial⟩) (ent Tryz.func18) fun x y h=>w18 h

def C4:List AV→Option AV:=specP (X:=(List U8) × Unit) fun x=>laws_FnBlurred x.1
theorem C4_eq {code} {y} (h:laws_FnBlurred code=some y):C4 [av .shr code]=some (Res.res y):=zah (x:=(code,())) h
def g4:Cfg:={ P:=Tryz.prog,take:=[(4,16)],keep:=[((4,12),{ hd:=[3,4,7,8],bx:=[],ex:=[3,4,7],rt:=[2] }),((4,15),{ hd:=[3,4,7,8,9],bx:=[],ex:=[3,4,7,8],rt:=[2] })],gho:=[],ctx:=[(5,C5),(18,C18),(20,C20),(21,C21),(22,C22),(23,C23),(24,C24),(25,C25),(26,C26),(27,C27),(28,C28),(29,C29),(30,C30),(31,C31),(32,C32),(33,C33),(34,C34)] }
@[simp] theorem g4_s:type_of% (cfg_s (g:=g4) rfl):=cfg_s rfl
theorem w4 {code} {y} (hp:laws_FnBlurred code=some y):∃ m,callo g4 0 4 [av .shr code] mem0=some (Res.res y,m):=by
 refine st0 [.tmp 2] Tryz.func4 ?_
 unfold laws_FnBlurred at hp
 obtain ⟨y_1,h_2,hp⟩:=zaa hp
 have c_3:=C5_eq h_2
 simp at c_3
 simp [Tryz.f4,c_3]
 rcases zad hp with ⟨h_4,hp⟩|⟨h_4,hp⟩
 ·try simp at h_4
  cases hp
  simp [Goal,FnEnd,h_4]
 ·try simp at h_4
  obtain ⟨y_5,h_6,hp⟩:=zaa hp
  have c_7:=C20_eq h_6
  simp at c_7
  obtain ⟨y_8,h_9,hp⟩:=zaa hp
  have c_10:=C21_eq h_9
  simp at c_10
  obtain ⟨y_11,h_12,hp⟩:=zaa hp
  have c_13:=C22_eq h_12
  simp at c_13
  obtain ⟨y_14,h_15,hp⟩:=zaa hp
  have c_16:=C23_eq h_15
  simp at c_16
  obtain ⟨y_17,h_18,hp⟩:=zaa hp
  have c_19:=C25_eq h_18
  simp at c_19
  obtain ⟨y_20,h_21,hp⟩:=zaa hp
  have c_22:=C24_eq h_21
  simp at c_22
  try simp [h_4,c_7,c_10,c_13,c_16,c_19,c_22]
  rcases zad hp with ⟨h_23,hp⟩|⟨h_23,hp⟩
  ·try simp at h_23
   obtain ⟨y_24,h_25,hp⟩:=zaa hp
   have c_26:=C26_eq h_25
   simp at c_26
   obtain ⟨y_27,h_28,hp⟩:=zaa hp
   have c_29:=C27_eq h_28
   simp at c_29
   try simp [h_4,h_23,c_26,c_29]
   rcases zad hp with ⟨h_30,hp⟩|⟨h_30,hp⟩
   ·try simp at h_30
    cases hp
    simp [Goal,FnEnd,h_4,h_23,h_30]
   ·try simp at h_30
    obtain ⟨y_31,h_32,hp⟩:=zaa hp
    have c_33:=C28_eq h_32
    simp at c_33
    obtain ⟨y_34,h_35,hp⟩:=zaa hp
    have c_36:=C29_eq h_35
    simp at c_36
    obtain ⟨y_37,h_38,hp⟩:=zaa hp
    have c_39:=C24_eq h_38
    simp at c_39
    try simp [h_4,h_23,h_30,c_33,c_36,c_39]
    rcases zad hp with ⟨h_40,hp⟩|⟨h_40,hp⟩
    ·try simp at h_40
     obtain ⟨y_41,h_42,hp⟩:=zaa hp
     have c_43:=C30_eq h_42
     simp at c_43
     obtain ⟨y_44,h_45,hp⟩:=zaa hp
     have c_46:=C31_eq h_45
     simp at c_46
     try simp [h_4,h_23,h_30,h_40,c_43,c_46]
     rcases zad hp with ⟨h_47,hp⟩|⟨h_47,hp⟩
     ·try simp at h_47
      cases hp
      simp [Goal,FnEnd,h_4,h_23,h_30,h_40,h_47]
     ·try simp at h_47
      obtain ⟨y_48,h_49,hp⟩:=zaa hp
      have c_50:=C30_eq h_49
      simp at c_50
      try simp [h_4,h_23,h_30,h_40,h_47,c_50]
      rcases zad hp with ⟨h_51,hp⟩|⟨h_51,hp⟩
      ·try simp at h_51
       obtain ⟨y_52,h_53,hp⟩:=zaa hp
       have c_54:=C32_eq h_53
       simp at c_54
       try simp [h_4,h_23,h_30,h_40,h_47,h_51,c_54]
       rcases zad hp with ⟨h_55,hp⟩|⟨h_55,hp⟩
       ·try simp at h_55
        try simp [h_4,h_23,h_30,h_40,h_47,h_51,h_55]
        obtain ⟨r_87,h_88,hp⟩:=zaa hp
        obtain ⟨I_58,I_58_⟩:=exV fun (s_56:Int) (σ:St)=>(σ.env 3=uP (1,3)∧σ.env 4=uP (1,4)∧σ.env 7=uP (1,7)∧σ.env 8=uI s_56∧σ.mem (1,3)=some [cL .shr y_5.nodes,cL .shr y_5.next]∧σ.mem (1,4)=some [cL .own y_8.nodes,cL .own y_8.next]∧σ.mem (1,5)=some [cL .shr y_11.1.nodes,cL .shr y_11.1.next]∧σ.mem (1,7)=some [cL .shr y_14.vars,cL .shr y_14.next])∧NoBox [(1,3),(1,4),(1,5),(1,7)] σ.mem
        obtain ⟨X_59,X_59_⟩:=exV fun (r_87:(Bool) ⊕ (Unit)) (out:Out)=>Sum.elim (fun r_87=>∃ σ:St,out=.ret σ∧(σ.env 2=uB r_87∧σ.mem (1,3)=some [cL .shr y_5.nodes,cL .shr y_5.next]∧σ.mem (1,4)=some [cL .own y_8.nodes,cL .own y_8.next]∧σ.mem (1,5)=some [cL .shr y_11.1.nodes,cL .shr y_11.1.next]∧σ.mem (1,7)=some [cL .shr y_14.vars,cL .shr y_14.next])∧NoBox [(1,3),(1,4),(1,5),(1,7)] σ.mem) (fun r_87=>∃ σ:St,out=.exit 0 σ∧(σ.env 3=uP (1,3)∧σ.env 4=uP (1,4)∧σ.env 7=uP (1,7)∧σ.mem (1,3)=some [cL .shr y_5.nodes,cL .shr y_5.next]∧σ.mem (1,4)=some [cL .own y_8.nodes,cL .own y_8.next]∧σ.mem (1,5)=some [cL .shr y_11.1.nodes,cL .shr y_11.1.next]∧σ.mem (1,7)=some [cL .shr y_14.vars,cL .shr y_14.next])∧NoBox [(1,3),(1,4),(1,5),(1,7)] σ.mem) r_87
        refine loopP ({ hd:=[3,4,7,8],bx:=[],ex:=[3,4,7],rt:=[2] }) I_58 X_59 h_88 (by exact rfl) ?_ ?_ ?_
        ·rw [I_58_]
         exact ⟨by simp [zac,zab,h_4,h_23,h_30,h_40,h_47,h_51,h_55],NoBox.restrict (by intro k hk hb;simp at hk hb;simp [hk,hb,h_4,h_23,h_30,h_40,h_47,h_51,h_55])⟩
        ·intro s_56 σ_60 a_57 hI hp
         rw [I_58_] at hI
         obtain ⟨q_62,hn_61⟩:=hI
         try simp [h_4,h_23,h_30,h_40,h_47,h_51,h_55,q_62]
         rcases zad hp with ⟨h_63,hp⟩|⟨h_63,hp⟩
         ·try simp at h_63
          try simp [h_4,h_23,h_30,h_40,h_47,h_51,h_55,q_62,h_63]
          obtain ⟨r_79,h_80,hp⟩:=zaa hp
          obtain ⟨I_66,I_66_⟩:=exV fun (s_64:Int) (σ:St)=>(σ.env 3=uP (1,3)∧σ.env 4=uP (1,4)∧σ.env 7=uP (1,7)∧σ.env 8=uI s_56∧σ.env 9=uI s_64∧σ.mem (1,3)=some [cL .shr y_5.nodes,cL .shr y_5.next]∧σ.mem (1,4)=some [cL .own y_8.nodes,cL .own y_8.next]∧σ.mem (1,5)=some [cL .shr y_11.1.nodes,cL .shr y_11.1.next]∧σ.mem (1,7)=some [cL .shr y_14.vars,cL .shr y_14.next])∧NoBox [(1,3),(1,4),(1,5),(1,7)] σ.mem
          obtain ⟨X_67,X_67_⟩:=exV fun (r_79:(Bool) ⊕ (Unit)) (out:Out)=>Sum.elim (fun r_79=>∃ σ:St,out=.ret σ∧(σ.env 2=uB r_79∧σ.mem (1,3)=some [cL .shr y_5.nodes,cL .shr y_5.next]∧σ.mem (1,4)=some [cL .own y_8.nodes,cL .own y_8.next]∧σ.mem (1,5)=some [cL .shr y_11.1.nodes,cL .shr y_11.1.next]∧σ.mem (1,7)=some [cL .shr y_14.vars,cL .shr y_14.next])∧NoBox [(1,3),(1,4),(1,5),(1,7)] σ.mem) (fun r_79=>∃ σ:St,out=.exit 2 σ∧(σ.env 3=uP (1,3)∧σ.env 4=uP (1,4)∧σ.env 7=uP (1,7)∧σ.env 8=uI s_56∧σ.mem (1,3)=some [cL .shr y_5.nodes,cL .shr y_5.next]∧σ.mem (1,4)=some [cL .own y_8.nodes,cL .own y_8.next]∧σ.mem (1,5)=some [cL .shr y_11.1.nodes,cL .shr y_11.1.next]∧σ.mem (1,7)=some [cL .shr y_14.vars,cL .shr y_14.next])∧NoBox [(1,3),(1,4),(1,5),(1,7)] σ.mem) r_79
          refine loopP ({ hd:=[3,4,7,8,9],bx:=[],ex:=[3,4,7,8],rt:=[2] }) I_66 X_67 h_80 (by exact rfl) ?_ ?_ ?_
          ·rw [I_66_]
           exact ⟨by simp [zac,zab,h_4,h_23,h_30,h_40,h_47,h_51,h_55,q_62,h_63],NoBox.restrict (by intro k hk hb;simp at hk hb;simp [hk,hb,h_4,h_23,h_30,h_40,h_47,h_51,h_55,q_62,h_63,hn_61 k (by simp [hk,hb])])⟩
          ·intro s_64 σ_68 a_65 hI hp
           rw [I_66_] at hI
           obtain ⟨q_70,hn_69⟩:=hI
           try simp [h_4,h_23,h_30,h_40,h_47,h_51,h_55,h_63,q_70]
           rcases zad hp with ⟨h_71,hp⟩|⟨h_71,hp⟩
           ·try simp at h_71
            obtain ⟨y_72,h_73,hp⟩:=zaa hp
            have c_74:=C26_eq h_73
            simp at c_74
            obtain ⟨y_75,h_76,hp⟩:=zaa hp
            have c_77:=C26_eq h_76
            simp at c_77
            try simp [h_4,h_23,h_30,h_40,h_47,h_51,h_55,h_63,q_70,h_71,c_74,c_77]
            rcases zad hp with ⟨h_78,hp⟩|⟨h_78,hp⟩
            ·try simp at h_78
             cases hp
             try simp [h_4,h_23,h_30,h_40,h_47,h_51,h_55,h_63,q_70,h_71,h_78]
             refine zaq ?_
             rw [X_67_]
             exact ⟨_,rfl,by simp [zac,zab,h_4,h_23,h_30,h_40,h_47,h_51,h_55,h_63,q_70,h_71,h_78],NoBox.restrict (by intro k hk hb;simp at hk hb;simp [hk,hb,h_4,h_23,h_30,h_40,h_47,h_51,h_55,h_63,q_70,h_71,h_78,hn_69 k (by simp [hk,hb])])⟩
            ·try simp at h_78
             cases hp
             try simp [h_4,h_23,h_30,h_40,h_47,h_51,h_55,h_63,q_70,h_71,h_78]
             refine zaf ?_
             rw [I_66_]
             exact ⟨by simp [zac,zab,h_4,h_23,h_30,h_40,h_47,h_51,h_55,h_63,q_70,h_71,h_78],NoBox.restrict (by intro k hk hb;simp at hk hb;simp [hk,hb,h_4,h_23,h_30,h_40,h_47,h_51,h_55,h_63,q_70,h_71,h_78,hn_69 k (by simp [hk,hb])])⟩
           ·try simp at h_71
            cases hp
            try simp [h_4,h_23,h_30,h_40,h_47,h_51,h_55,h_63,q_70,h_71]
            refine zai ?_
            rw [X_67_]
            exact ⟨_,rfl,by simp [zac,zab,h_4,h_23,h_30,h_40,h_47,h_51,h_55,h_63,q_70,h_71],NoBox.restrict (by intro k hk hb;simp at hk hb;simp [hk,hb,h_4,h_23,h_30,h_40,h_47,h_51,h_55,h_63,q_70,h_71,hn_69 k (by simp [hk,hb])])⟩
          ·intro out hX
           rw [X_67_] at hX
           rcases r_79 with r_79 | r_79
           ·simp only [Sum.elim_inl,Sum.elim_inr] at hX hp
            obtain ⟨σ_81,rfl,q_83,hn_82⟩:=hX
            cases hp
            try simp [h_4,h_23,h_30,h_40,h_47,h_51,h_55,h_63,q_83]
            refine zaq ?_
            rw [X_59_]
            exact ⟨_,rfl,by simp [zac,zab,h_4,h_23,h_30,h_40,h_47,h_51,h_55,h_63,q_83],NoBox.restrict (by intro k hk hb;simp at hk hb;simp [hk,hb,h_4,h_23,h_30,h_40,h_47,h_51,h_55,h_63,q_83,hn_82 k (by simp [hk,hb])])⟩
           ·simp only [Sum.elim_inl,Sum.elim_inr] at hX hp
            obtain ⟨σ_84,rfl,q_86,hn_85⟩:=hX
            cases hp
            try simp [h_4,h_23,h_30,h_40,h_47,h_51,h_55,h_63,q_86]
            refine zaf ?_
            rw [I_58_]
            exact ⟨by simp [zac,zab,h_4,h_23,h_30,h_40,h_47,h_51,h_55,h_63,q_86],NoBox.restrict (by intro k hk hb;simp at hk hb;simp [hk,hb,h_4,h_23,h_30,h_40,h_47,h_51,h_55,h_63,q_86,hn_85 k (by simp [hk,hb])])⟩
         ·try simp at h_63
          cases hp
          try simp [h_4,h_23,h_30,h_40,h_47,h_51,h_55,q_62,h_63]
          refine zai ?_
          rw [X_59_]
          exact ⟨_,rfl,by simp [zac,zab,h_4,h_23,h_30,h_40,h_47,h_51,h_55,q_62,h_63],NoBox.restrict (by intro k hk hb;simp at hk hb;simp [hk,hb,h_4,h_23,h_30,h_40,h_47,h_51,h_55,q_62,h_63,hn_61 k (by simp [hk,hb])])⟩
        ·intro out hX
         rw [X_59_] at hX
         rcases r_87 with r_87 | r_87
         ·simp only [Sum.elim_inl,Sum.elim_inr] at hX hp
          obtain ⟨σ_89,rfl,q_91,hn_90⟩:=hX
          cases hp
          simp [Goal,FnEnd,h_4,h_23,h_30,h_40,h_47,h_51,h_55,q_91]
         ·simp only [Sum.elim_inl,Sum.elim_inr] at hX hp
          obtain ⟨σ_92,rfl,q_94,hn_93⟩:=hX
          obtain ⟨y_95,h_96,hp⟩:=zaa hp
          have c_97:=C33_eq h_96
          simp at c_97
          try simp [h_4,h_23,h_30,h_40,h_47,h_51,h_55,q_94,c_97]
          rcases zad hp with ⟨h_98,hp⟩|⟨h_98,hp⟩
          ·try simp at h_98
           obtain ⟨y_99,h_100,hp⟩:=zaa hp
           have c_101:=C34_eq h_100
           simp at c_101
           try simp [h_4,h_23,h_30,h_40,h_47,h_51,h_55,q_94,h_98,c_101]
           rcases zad hp with ⟨h_102,hp⟩|⟨h_102,hp⟩
           ·try simp at h_102
            obtain ⟨y_103,h_104,hp⟩:=zaa hp
            cases Option.some.inj (h_32.symm.trans h_104)
            obtain ⟨y_105,h_106,hp⟩:=zaa hp
            have c_107:=C18_eq h_106
            simp at c_107
            cases hp
            simp [Goal,FnEnd,h_4,h_23,h_30,h_40,h_47,h_51,h_55,q_94,h_98,h_102,c_33,c_107]
           ·try simp at h_102
            cases hp
            simp [Goal,FnEnd,h_4,h_23,h_30,h_40,h_47,h_51,h_55,q_94,h_98,h_102]
          ·try simp at h_98
           cases hp
           simp [Goal,FnEnd,h_4,h_23,h_30,h_40,h_47,h_51,h_55,q_94,h_98]
       ·try simp at h_55
        cases hp
        simp [Goal,FnEnd,h_4,h_23,h_30,h_40,h_47,h_51,h_55]
      ·try simp at h_51
       cases hp
       simp [Goal,FnEnd,h_4,h_23,h_30,h_40,h_47,h_51]
    ·try simp at h_40
     cases hp
     simp [Goal,FnEnd,h_4,h_23,h_30,h_40]
  ·try simp at h_23
   cases hp
   simp [Goal,FnEnd,h_4,h_23]
theorem pc4:PC Tryz.prog 4 C4:=pc_of (g:=g4) (zag _ g4_s.2.1 ⟨pc5,pc18,pc20,pc21,pc22,pc23,pc24,pc25,pc26,pc27,pc28,pc29,pc30,pc31,pc32,pc33,pc34,trivial⟩) (ent Tryz.func4) fun x y h=>w4 h
end Go.Proofs

