import Derived.Test.YtenalemhbjojeaaGreatDoorEvA13
set_option linter.unusedSimpArgs false
set_option linter.unusedVariables false
set_option linter.unnecessarySimpa false
noncomputable section
set_option maxHeartbeats 4000000
set_option maxRecDepth 100000
namespace Go.Proofs
open Go.Ev
abbrev G124 (g:Cfg):Prop:=Has Tryz.prog g 124 Tryz.f124 [] [] [] []
theorem wI124 {g:Cfg} (G:G124 g) (G_148:G148 g) {d:Nat} {mem:Mem} (hT:Tight d mem)  {s:(List Int)} {f_:(Int→Option (Bool))} {m_0:Md} (hm_0:LentM m_0) {fk_f_:Nat} {caps_f_:List (Key × Nat)} (hl_f_:∀ c∈caps_f_,c.1.1≤d) (hc_f_:Clo g d mem fk_f_ caps_f_ fun x:Int × Unit=>f_ x.1) {y} (hp:zbd s f_=some y):callo g d 124 [av m_0 s,.one (.fn fk_f_ caps_f_)] mem=some (Res.res y,mem):=by
 have gP:=G.P;have gt:=G.tk;have gr:=G.ro;have gg:=G.gh
 have i_148:=G_148.no
 have hT2:memKill (fun k=>decide (d < k.1)) mem=mem:=hT
 refine zgk (Tryz.f124.body.getD .skip) [.tmp 4] G Tryz.func124 (by kernel_rfl) (by simp [Tryz.ntmps124]) rfl ?_
 unfold zbd at hp
 obtain ⟨y_1,h_2,hp⟩:=zaa hp
 simp [Tryz.f124,gP,gt,gr,gg,i_148,hm_0.copy,hm_0.elem]
 refine zfa [av m_0 s,.one (.fn fk_f_ caps_f_)] (Res.res y_1) (by simp [gP,gt,gr,gg,i_148,hm_0.copy,hm_0.elem]) (wI148 G_148 (by repeat (first | exact zeb _ | exact hT.up | exact hT | (simp only [true_and];done) | refine Tight.upd ?_ (by simp) (by simp) | refine Tight.killB ?_ | refine zev ?_)) hm_0 (fun c hc=>Nat.le_succ_of_le (hl_f_ c hc)) (hc_f_.mono (Nat.le_succ d) (fun k hk=>rfl)) h_2) ?_
 cases hp
 simp [Goal,FnEndI,zbj,gP,gt,gr,gg,i_148,hm_0.copy,hm_0.elem,hT2]

def C89:List AV→Option AV:=specP (X:=(List Int) × Unit) fun x=>zco x.1
theorem C89_eq {list} {y} (h:zco list=some y):C89 [av .shr list]=some (Res.res y):=zaf (x:=(list,())) h
def g89:Cfg:={ P:=Tryz.prog,take:=[],keep:=[((148,2),{ hd:=[0,1,7,8],bx:=[],ex:=[],rt:=[4] })],gho:=[],ctx:=[(125,C125)] }
@[simp] theorem g89_s:type_of% (cfg_s (g:=g89) rfl):=cfg_s rfl
theorem w89 {list} {y} (hp:zco list=some y):∃ m,callo g89 0 89 [av .shr list] mem0=some (Res.res y,m):=by
 have G_124:G124 g89:=⟨rfl,by kernel_rfl,rfl,fun t=>by simp,noAway (fun t=>by simp) (by simp) (fun t=>by simp),by simp [lookN],fun i=>by simp [lookK],by simp [g89,lookK],by simp⟩
 have G_148:G148 g89:=⟨rfl,by kernel_rfl,rfl,fun t=>by simp,noAway (fun t=>by simp) (by simp) (fun t=>by simp),by simp [lookN],fun i=>by simp [lookK],by simp [g89,lookK],by simp⟩
 refine st0 [.tmp 2] Tryz.func89 ?_
 unfold zco at hp
 obtain ⟨y_1,h_2,hp⟩:=zaa hp
 simp [Tryz.f89]
 refine zfa [av .shr list,.one (.fn 125 [])] (Res.res y_1) (by simp) (wI124 G_124 G_148 (by repeat (first | exact zeb _ | exact hT.up | exact hT | (simp only [true_and];done) | refine Tight.upd ?_ (by simp) (by simp) | refine Tight.killB ?_ | refine zev ?_)) (.inl rfl) (by simp) (clo_ctx (by rfl)) h_2) ?_
 cases hp
 simp [Goal,FnEnd]
theorem pc89:PC Tryz.prog 89 C89:=pc_of (g:=g89) (zaj _ g89_s.2.1 ⟨pc125,trivial⟩) (ent Tryz.func89) fun x y h=>w89 h

abbrev G126 (g:Cfg):Prop:=Has Tryz.prog g 126 Tryz.f126 [] [(2,{ hd:=[0,1,7,8],bx:=[],ex:=[],rt:=[4] })] [] []
theorem wI126 {g:Cfg} (G:G126 g) {d:Nat} {mem:Mem} (hT:Tight d mem)  {s:(List TNode)} {f_:(TNode→Option (Bool))} {m_0:Md} (hm_0:LentM m_0) {fk_f_:Nat} {caps_f_:List (Key × Nat)} (hl_f_:∀ c∈caps_f_,c.1.1≤d) (hc_f_:Clo g d mem fk_f_ caps_f_ fun x:TNode × Unit=>f_ x.1) {y} (hp:zdi s f_=some y):callo g d 126 [av m_0 s,.one (.fn fk_f_ caps_f_)] mem=some (Res.res y,mem):=by
 have gP:=G.P;have gt:=G.tk;have gr:=G.ro;have gg:=G.gh
 have k_2:=G.kp (2,{ hd:=[0,1,7,8],bx:=[],ex:=[],rt:=[4] }) (by simp)
 have hT2:memKill (fun k=>decide (d < k.1)) mem=mem:=hT
 refine zgk (Tryz.f126.body.getD .skip) [.tmp 4] G Tryz.func126 (by kernel_rfl) (by simp [Tryz.ntmps126]) rfl ?_
 unfold zdi at hp
 simp [Tryz.f126,gP,gt,gr,gg,hm_0.copy,hm_0.elem]
 obtain ⟨r_18,h_19,hp⟩:=zaa hp
 obtain ⟨I_3,I_3_⟩:=exV fun (s_1:Int) (σ:St)=>(σ.env 0=uL m_0 s∧σ.env 7=uI (s.length:Int)∧σ.env 8=uI s_1)∧σ.env 1=.one (.fn fk_f_ caps_f_)∧σ.mem=mem
 obtain ⟨X_4,X_4_⟩:=exV fun (r_18:(Int) ⊕ (Unit)) (out:Out)=>Sum.elim (fun r_18=>∃ σ:St,out=.ret σ∧σ.env 4=uI r_18∧σ.mem=mem) (fun r_18=>∃ σ:St,out=.exit 0 σ∧σ.mem=mem) r_18
 refine loopP ({ hd:=[0,1,7,8],bx:=[],ex:=[],rt:=[4] }) I_3 X_4 h_19 (by exact k_2) ?_ ?_ ?_
 ·rw [I_3_]
  exact ⟨by simp [zac,zab,gP,gt,gr,gg,hm_0.copy,hm_0.elem],by simp [zac,gP,gt,gr,gg,hm_0.copy,hm_0.elem] <;> first | (intro x x1 x2 hx;have h0:=hl_f_ _ hx;simp at h0;omega) | (intro x hx;have h0:=hl_f_ _ hx;simp at h0;omega),by simp [zab,gP,gt,gr,gg,hm_0.copy,hm_0.elem]⟩
 ·intro s_1 σ_5 a_2 hI hp
  rw [I_3_] at hI
  obtain ⟨q_8,q_6,q_7⟩:=hI
  try simp [gP,gt,gr,gg,hm_0.copy,hm_0.elem,q_8,q_6,q_7]
  rcases zad hp with ⟨h_9,hp⟩|⟨h_9,hp⟩
  ·try simp at h_9
   obtain ⟨e_10,h_11,hp⟩:=zaa hp
   have b_12:=at_lo h_11
   have b_13:=at_hi h_11
   try simp at b_12 b_13
   have c_14:=seg_at' h_11 0 4 (by decide) (ds:=[.sl e_10.vars.length (encL e_10.vars),.sl e_10.reach.length (encL e_10.reach),.sc (.int .i64 e_10.shared),.sc (.int .i64 e_10.many)]) rfl
   try simp at c_14
   obtain ⟨y_15,h_16,hp⟩:=zaa hp
   try simp [gP,gt,gr,gg,hm_0.copy,hm_0.elem,q_8,q_6,q_7,h_9,b_12,b_13,c_14]
   refine zfa ([av m_0 e_10] ++ capsAV caps_f_) (Res.res y_15) (by simp [capsAV,gP,gt,gr,gg,hm_0.copy,hm_0.elem,q_8,q_6,q_7,h_9]) (hc_f_ _ _ _ (e_10,()) _ (Nat.le_succ d) (fun k hk=>by first | rfl | rw [q_7]) (by repeat (first | exact zeb _ | exact hT.up | exact hT | (simp only [q_8,q_6,q_7];done) | refine Tight.upd ?_ (by simp) (by simp) | refine Tight.killB ?_ | refine zev ?_)) ⟨_,_,hm_0,rfl,rfl⟩ h_16) ?_
   try simp [gP,gt,gr,gg,hm_0.copy,hm_0.elem,q_8,q_6,q_7,h_9]
   rcases zad hp with ⟨h_17,hp⟩|⟨h_17,hp⟩
   ·try simp at h_17
    cases hp
    try simp [gP,gt,gr,gg,hm_0.copy,hm_0.elem,q_8,q_6,q_7,h_9,h_17]
    refine zao ?_
    rw [X_4_]
    exact ⟨_,rfl,by simp [zac,zab,gP,gt,gr,gg,hm_0.copy,hm_0.elem,q_8,q_6,q_7,h_9,h_17],by simp [zab,gP,gt,gr,gg,hm_0.copy,hm_0.elem,q_8,q_6,q_7,h_9,h_17]⟩
   ·try simp at h_17
    cases hp
    try simp [gP,gt,gr,gg,hm_0.copy,hm_0.elem,q_8,q_6,q_7,h_9,h_17]
    refine zag ?_
    rw [I_3_]
    exact ⟨by simp [zac,zab,gP,gt,gr,gg,hm_0.copy,hm_0.elem,q_8,q_6,q_7,h_9,h_17],by simp [zac,gP,gt,gr,gg,hm_0.copy,hm_0.elem,q_8,q_6,q_7,h_9,h_17] <;> first | (intro x x1 x2 hx;have h0:=hl_f_ _ hx;simp at h0;omega) | (intro x hx;have h0:=hl_f_ _ hx;simp at h0;omega),by simp [zab,gP,gt,gr,gg,hm_0.copy,hm_0.elem,q_8,q_6,q_7,h_9,h_17]⟩
  ·try simp at h_9
   cases hp
   try simp [gP,gt,gr,gg,hm_0.copy,hm_0.elem,q_8,q_6,q_7,h_9]
   refine zak ?_
   rw [X_4_]
   exact ⟨_,rfl,by simp [zab,gP,gt,gr,gg,hm_0.copy,hm_0.elem,q_8,q_6,q_7,h_9]⟩
 ·intro out hX
  rw [X_4_] at hX
  rcases r_18 with r_18 | r_18
  ·simp only [Sum.elim_inl,Sum.elim_inr] at hX hp
   obtain ⟨σ_20,rfl,q_22,q_21⟩:=hX
   cases hp
   simp [Goal,FnEndI,zbj,gP,gt,gr,gg,hm_0.copy,hm_0.elem,q_22,q_21,hT2]
  ·simp only [Sum.elim_inl,Sum.elim_inr] at hX hp
   obtain ⟨σ_23,rfl,q_24⟩:=hX
   cases hp
   simp [Goal,FnEndI,zbj,gP,gt,gr,gg,hm_0.copy,hm_0.elem,q_24,hT2]

abbrev G90 (g:Cfg):Prop:=Has Tryz.prog g 90 Tryz.f90 [] [] [] []
theorem wI90 {g:Cfg} (G:G90 g) (G_126:G126 g) {d:Nat} {mem:Mem} (hT:Tight d mem)  {s:(List TNode)} {f_:(TNode→Option (Bool))} {m_0:Md} (hm_0:LentM m_0) {fk_f_:Nat} {caps_f_:List (Key × Nat)} (hl_f_:∀ c∈caps_f_,c.1.1≤d) (hc_f_:Clo g d mem fk_f_ caps_f_ fun x:TNode × Unit=>f_ x.1) {y} (hp:zbp s f_=some y):callo g d 90 [av m_0 s,.one (.fn fk_f_ caps_f_)] mem=some (Res.res y,mem):=by
 have gP:=G.P;have gt:=G.tk;have gr:=G.ro;have gg:=G.gh
 have i_126:=G_126.no
 have hT2:memKill (fun k=>decide (d < k.1)) mem=mem:=hT
 refine zgk (Tryz.f90.body.getD .skip) [.tmp 4] G Tryz.func90 (by kernel_rfl) (by simp [Tryz.ntmps90]) rfl ?_
 unfold zbp at hp
 obtain ⟨y_1,h_2,hp⟩:=zaa hp
 simp [Tryz.f90,gP,gt,gr,gg,i_126,hm_0.copy,hm_0.elem]
 refine zfa [av m_0 s,.one (.fn fk_f_ caps_f_)] (Res.res y_1) (by simp [gP,gt,gr,gg,i_126,hm_0.copy,hm_0.elem]) (wI126 G_126 (by repeat (first | exact zeb _ | exact hT.up | exact hT | (simp only [true_and];done) | refine Tight.upd ?_ (by simp) (by simp) | refine Tight.killB ?_ | refine zev ?_)) hm_0 (fun c hc=>Nat.le_succ_of_le (hl_f_ c hc)) (hc_f_.mono (Nat.le_succ d) (fun k hk=>rfl)) h_2) ?_
 cases hp
 simp [Goal,FnEndI,zbj,gP,gt,gr,gg,i_126,hm_0.copy,hm_0.elem,hT2]

abbrev G91 (g:Cfg):Prop:=Has Tryz.prog g 91 Tryz.f91 [] [] [(89,C89),(92,C92)] []
theorem wI91 {g:Cfg} (G:G91 g) {d:Nat} {mem:Mem} (hT:Tight d mem) {K_1:Key} {x_:TNode} {c0:Int} {m_0:Md} (hm_0:LentM m_0) (hk_1:K_1.1≤d) (hb_1:mem K_1=some [cI c0]) {y} (hp:zcr x_ c0=some y):callo g d 91 [av m_0 x_,.one (.ptr K_1 0)] mem=some (Res.res y,mem):=by
 have gP:=G.P;have gt:=G.tk;have gr:=G.ro;have gg:=G.gh
 have c_89:=G.cs (89,C89) (by simp)
 have c_92:=G.cs (92,C92) (by simp)
 have hT2:memKill (fun k=>decide (d < k.1)) mem=mem:=hT
 have hm0:∀ t,mem (d+1,t)=none:=fun t=>hT.none (by simp)
 have nk_1:∀ t,(K_1=(d+1,t))=False:=fun t=>by simp;intro h;rw [h] at hk_1;simp at hk_1;omega
 refine zgk (Tryz.f91.body.getD .skip) [.tmp 3] G Tryz.func91 (by kernel_rfl) (by simp [Tryz.ntmps91]) rfl ?_
 unfold zcr at hp
 simp [Tryz.f91,gP,gt,gr,gg,hm0,hm_0.copy,hm_0.elem,hb_1,nk_1]
 rcases zad hp with ⟨h_1,hp⟩|⟨h_1,hp⟩
 ·try simp at h_1
  cases hp
  simp [Goal,FnEndI,zbj,gP,gt,gr,gg,hm0,hm_0.copy,hm_0.elem,hb_1,nk_1,h_1,hT2]
 ·try simp at h_1
  try simp [gP,gt,gr,gg,hm0,hm_0.copy,hm_0.elem,hb_1,nk_1,h_1]
  rcases zad hp with ⟨h_2,hp⟩|⟨h_2,hp⟩
  ·try simp at h_2
   cases hp
   simp [Goal,FnEndI,zbj,gP,gt,gr,gg,hm0,hm_0.copy,hm_0.elem,hb_1,nk_1,h_1,h_2,hT2]
  ·try simp at h_2
   obtain ⟨y_3,h_4,hp⟩:=zaa hp
   have c_5:=C89_eq h_4
   simp at c_5
   try simp [gP,gt,gr,gg,hm0,c_89,hm_0.copy,hm_0.elem,hb_1,nk_1,h_1,h_2,c_5]
   rcases zad hp with ⟨h_6,hp⟩|⟨h_6,hp⟩
   ·try simp at h_6
    obtain ⟨y_7,h_8,hp⟩:=zaa hp
    have c_9:=C89_eq h_8
    simp at c_9
    try simp [gP,gt,gr,gg,hm0,c_89,hm_0.copy,hm_0.elem,hb_1,nk_1,h_1,h_2,h_6,c_9]
    rcases zad hp with ⟨h_10,hp⟩|⟨h_10,hp⟩
    ·try simp at h_10
     obtain ⟨y_11,h_12,hp⟩:=zaa hp
     have c_13:=C92_eq h_12
     simp at c_13
     try simp [gP,gt,gr,gg,hm0,c_89,c_92,hm_0.copy,hm_0.elem,hb_1,nk_1,h_1,h_2,h_6,h_10,c_13]
     rcases zad hp with ⟨h_14,hp⟩|⟨h_14,hp⟩
     ·try simp at h_14
      try simp [gP,gt,gr,gg,hm0,c_89,c_92,hm_0.copy,hm_0.elem,hb_1,nk_1,h_1,h_2,h_6,h_10,h_14]
      rcases zad hp with ⟨h_15,hp⟩|⟨h_15,hp⟩
      ·try simp at h_15
       cases hp
       simp [Goal,FnEndI,zbj,gP,gt,gr,gg,hm0,c_89,c_92,hm_0.copy,hm_0.elem,hb_1,nk_1,h_1,h_2,h_6,h_10,h_14,h_15,hT2]
      ·try simp at h_15
       cases hp
       simp [Goal,FnEndI,zbj,gP,gt,gr,gg,hm0,c_89,c_92,hm_0.copy,hm_0.elem,hb_1,nk_1,h_1,h_2,h_6,h_10,h_14,h_15,hT2]
     ·try simp at h_14
      cases hp
      simp [Goal,FnEndI,zbj,gP,gt,gr,gg,hm0,c_89,c_92,hm_0.copy,hm_0.elem,hb_1,nk_1,h_1,h_2,h_6,h_10,h_14,hT2]
    ·try simp at h_10
     cases hp
     simp [Goal,FnEndI,zbj,gP,gt,gr,gg,hm0,c_89,c_92,hm_0.copy,hm_0.elem,hb_1,nk_1,h_1,h_2,h_6,h_10,hT2]
   ·try simp at h_6
    cases hp
    simp [Goal,FnEndI,zbj,gP,gt,gr,gg,hm0,c_89,c_92,hm_0.copy,hm_0.elem,hb_1,nk_1,h_1,h_2,h_6,hT2]

def C66:List AV→Option AV:=specP (X:=Int × TStructure × Unit) fun x=>zce x.1 x.2.1
theorem C66_eq {vars s} {y} (h:zce vars s=some y):C66 [av .shr vars,av .shr s]=some (Res.res y):=zaf (x:=(vars,s,())) h
def g66:Cfg:={ P:=Tryz.prog,take:=[],keep:=[((126,2),{ hd:=[0,1,7,8],bx:=[],ex:=[],rt:=[4] })],gho:=[],ctx:=[(88,C88),(89,C89),(92,C92)] }
@[simp] theorem g66_s:type_of% (cfg_s (g:=g66) rfl):=cfg_s rfl
theorem w66 {vars s} {y} (hp:zce vars s=some y):∃ m,callo g66 0 66 [av .shr vars,av .shr s] mem0=some (Res.res y,m):=by
 have G_90:G90 g66:=⟨rfl,by kernel_rfl,rfl,fun t=>by simp,noAway (fun t=>by simp) (by simp) (fun t=>by simp),by simp [lookN],fun i=>by simp [lookK],by simp [g66,lookK],by simp⟩
 have G_126:G126 g66:=⟨rfl,by kernel_rfl,rfl,fun t=>by simp,noAway (fun t=>by simp) (by simp) (fun t=>by simp),by simp [lookN],fun i=>by simp [lookK],by simp [g66,lookK],by simp⟩
 have G_91:G91 g66:=⟨rfl,by kernel_rfl,rfl,fun t=>by simp,noAway (fun t=>by simp) (by simp) (fun t=>by simp),by simp [lookN],fun i=>by simp [lookK],by simp [g66,lookK],by simp⟩
 refine st0 [.tmp 4] Tryz.func66 ?_
 unfold zce at hp
 obtain ⟨y_1,h_2,hp⟩:=zaa hp
 have c_3:=zkf h_2
 simp at c_3
 simp [Tryz.f66,c_3]
 rcases zad hp with ⟨h_4,hp⟩|⟨h_4,hp⟩
 ·try simp at h_4
  try simp [h_4]
  rcases zad hp with ⟨h_5,hp⟩|⟨h_5,hp⟩
  ·try simp at h_5
   cases hp
   simp [Goal,FnEnd,h_4,h_5]
  ·try simp at h_5
   try simp [h_4,h_5]
   rcases zad hp with ⟨h_6,hp⟩|⟨h_6,hp⟩
   ·try simp at h_6
    cases hp
    simp [Goal,FnEnd,h_4,h_5,h_6]
   ·try simp at h_6
    obtain ⟨y_7,h_8,hp⟩:=zaa hp
    have c_9:=C89_eq h_8
    simp at c_9
    try simp [h_4,h_5,h_6,c_9]
    rcases zad hp with ⟨h_10,hp⟩|⟨h_10,hp⟩
    ·try simp at h_10
     obtain ⟨y_11,h_12,hp⟩:=zaa hp
     try simp [h_4,h_5,h_6,h_10]
     refine zfa [av .shr s.nodes,.one (.fn 91 [((1,2),0)])] (Res.res y_11) (by simp [h_4,h_5,h_6,h_10]) (wI90 G_90 G_126 (by repeat (first | exact zeb _ | exact hT.up | exact hT | (simp only [true_and];done) | refine Tight.upd ?_ (by simp) (by simp) | refine Tight.killB ?_ | refine zev ?_)) (.inl rfl) (by simp) (clo1 (p:=fun x0=>zcr x0 vars) fun d2 mem2 m0 x0 r2 hd2 ha2 hT2 hm0 hr2=>wI91 G_91 hT2 hm0 (show 1≤d2 from hd2) ((ha2 _ (Nat.le_refl _)).trans (by simp [h_4,h_5,h_6,h_10])) hr2) h_12) ?_
     cases hp
     simp [Goal,FnEnd,h_4,h_5,h_6,h_10]
    ·try simp at h_10
     cases hp
     simp [Goal,FnEnd,h_4,h_5,h_6,h_10]
 ·try simp at h_4
  cases hp
  simp [Goal,FnEnd,h_4]
theorem pc66:PC Tryz.prog 66 C66:=pc_of (g:=g66) (zaj _ g66_s.2.1 ⟨pc88,pc89,pc92,trivial⟩) (ent Tryz.func66) fun x y h=>w66 h

def C93:List AV→Option AV:=specP (X:=TStructure × Int × Unit) fun x=>zam x.1 x.2.1
theorem C93_eq {s i} {y} (h:zam s i=some y):C93 [av .shr s,av .shr i]=some (Res.res y):=zaf (x:=(s,i,())) h
def g93:Cfg:={ P:=Tryz.prog,take:=[],keep:=[],gho:=[],ctx:=[(88,C88)] }
@[simp] theorem g93_s:type_of% (cfg_s (g:=g93) rfl):=cfg_s rfl
theorem w93 {s i} {y} (hp:zam s i=some y):∃ m,callo g93 0 93 [av .shr s,av .shr i] mem0=some (Res.res y,m):=by
 refine st0 [.tmp 4] Tryz.func93 ?_
 unfold zam at hp
 obtain ⟨y_1,h_2,hp⟩:=zaa hp
 have c_3:=zkf h_2
 simp at c_3
 cases hp
 simp [Tryz.f93,Goal,FnEnd,c_3]
theorem pc93:PC Tryz.prog 93 C93:=pc_of (g:=g93) (zaj _ g93_s.2.1 ⟨pc88,trivial⟩) (ent Tryz.func93) fun x y h=>w93 h

def C94:List AV→Option AV:=specP (X:=TStructure × Unit) fun x=>zbf x.1
theorem C94_eq {s} {y} (h:zbf s=some y):C94 [av .shr s]=some (Res.res y):=zaf (x:=(s,())) h
def g94:Cfg:={ P:=Tryz.prog,take:=[],keep:=[],gho:=[],ctx:=[(67,C67)] }
@[simp] theorem g94_s:type_of% (cfg_s (g:=g94) rfl):=cfg_s rfl
theorem w94 {s} {y} (hp:zbf s=some y):∃ m,callo g94 0 94 [av .shr s] mem0=some (Res.res y,m):=by
 refine st0 [.tmp 2] Tryz.func94 ?_
 unfold zbf at hp
 simp [Tryz.f94]
 rcases zad hp with ⟨h_1,hp⟩|⟨h_1,hp⟩
 ·try simp at h_1
  cases hp
  simp [Goal,FnEnd,h_1]
 ·try simp at h_1
  obtain ⟨y_2,h_3,hp⟩:=zaa hp
  have c_4:=C67_eq h_3
  simp at c_4
  cases hp
  simp [Goal,FnEnd,h_1,c_4]
theorem pc94:PC Tryz.prog 94 C94:=pc_of (g:=g94) (zaj _ g94_s.2.1 ⟨pc67,trivial⟩) (ent Tryz.func94) fun x y h=>w94 h

def C96:List AV→Option AV:=specP (X:=TStructure × Int × Int × Unit) fun x=>zct x.1 x.2.1 x.2.2.1
theorem C96_eq {s k_ i} {y} (h:zct s k_ i=some y):C96 [av .shr s,av .shr k_,av .shr i]=some (Res.res y):=zaf (x:=(s,k_,i,())) h
def g96:Cfg:={ P:=Tryz.prog,take:=[],keep:=[],gho:=[],ctx:=[(67,C67),(88,C88),(93,C93)] }
@[simp] theorem g96_s:type_of% (cfg_s (g:=g96) rfl):=cfg_s rfl
theorem w96 {s k_ i} {y} (hp:zct s k_ i=some y):∃ m,callo g96 0 96 [av .shr s,av .shr k_,av .shr i] mem0=some (Res.res y,m):=by
 refine st0 [.tmp 6] Tryz.func96 ?_
 unfold zct at hp
 obtain ⟨y_1,h_2,hp⟩:=zaa hp
 have c_3:=C67_eq h_2
 simp at c_3
 obtain ⟨y_4,h_5,hp⟩:=zaa hp
 have c_6:=C93_eq h_5
 simp at c_6
 simp [Tryz.f96,c_3,c_6]
 rcases zad hp with ⟨h_7,hp⟩|⟨h_7,hp⟩
 ·try simp at h_7
  obtain ⟨e_8,h_9,hp⟩:=zaa hp
  have b_10:=at_lo h_9
  have b_11:=at_hi h_9
  try simp at b_10 b_11
  have c_12:=seg_at' h_9 0 4 (by decide) (ds:=[.sl e_8.vars.length (encL e_8.vars),.sl e_8.reach.length (encL e_8.reach),.sc (.int .i64 e_8.shared),.sc (.int .i64 e_8.many)]) rfl
  try simp at c_12
  try simp [h_7,b_10,b_11,c_12]
  rcases zad hp with ⟨h_13,hp⟩|⟨h_13,hp⟩
  ·try simp at h_13
   cases hp
   simp [Goal,FnEnd,h_7,h_13]
  ·try simp at h_13
   obtain ⟨y_14,h_15,hp⟩:=zaa hp
   have c_16:=zkf h_15
   simp at c_16
   try simp [h_7,h_13,c_16]
   rcases zad hp with ⟨h_17,hp⟩|⟨h_17,hp⟩
   ·try simp at h_17
    obtain ⟨y_18,h_19,hp⟩:=zaa hp
    have c_20:=zkf h_19
    simp at c_20
    try simp [h_7,h_13,h_17,c_20]
    rcases zad hp with ⟨h_21,hp⟩|⟨h_21,hp⟩
    ·try simp at h_21
     obtain ⟨e_22,h_23,hp⟩:=zaa hp
     have b_24:=at_lo h_23
     have b_25:=at_hi h_23
     try simp at b_24 b_25
     have c_26:=seg_at' h_23 0 1 (by decide) (ds:=[.sc (.int .i64 e_22)]) rfl
     try simp at c_26
     cases hp
     simp [Goal,FnEnd,h_7,h_13,h_17,h_21,b_24,b_25,c_26]
    ·try simp at h_21
     cases hp
     simp [Goal,FnEnd,h_7,h_13,h_17,h_21]
   ·try simp at h_17
    obtain ⟨y_27,h_28,hp⟩:=zaa hp
    have c_29:=zkf h_28
    simp at c_29
    try simp [h_7,h_13,h_17,c_29]
    rcases zad hp with ⟨h_30,hp⟩|⟨h_30,hp⟩
    ·try simp at h_30
     obtain ⟨y_31,h_32,hp⟩:=zaa hp
     have c_33:=zkf h_32
     simp at c_33
     try simp [h_7,h_13,h_17,h_30,c_33]
     rcases zad hp with ⟨h_34,hp⟩|⟨h_34,hp⟩
     ·try simp at h_34
      obtain ⟨e_35,h_36,hp⟩:=zaa hp
      have b_37:=at_lo h_36
      have b_38:=at_hi h_36
      try simp at b_37 b_38
      have c_39:=seg_at' h_36 0 1 (by decide) (ds:=[.sc (.int .i64 e_35)]) rfl
      try simp at c_39
      cases hp
      simp [Goal,FnEnd,h_7,h_13,h_17,h_30,h_34,b_37,b_38,c_39]
     ·try simp at h_34
      cases hp
      simp [Goal,FnEnd,h_7,h_13,h_17,h_30,h_34]
    ·try simp at h_30
     obtain ⟨y_40,h_41,hp⟩:=zaa hp
     have c_42:=zkf h_41
     simp at c_42
     try simp [h_7,h_13,h_17,h_30,c_42]
     rcases zad hp with ⟨h_43,hp⟩|⟨h_43,hp⟩
     ·try simp at h_43
      obtain ⟨e_44,h_45,hp⟩:=zaa hp
      have b_46:=at_lo h_45
      have b_47:=at_hi h_45
      try simp at b_46 b_47
      have c_48:=seg_at' h_45 0 1 (by decide) (ds:=[.sc (.int .i64 e_44)]) rfl
      try simp at c_48
      cases hp
      simp [Goal,FnEnd,h_7,h_13,h_17,h_30,h_43,b_46,b_47,c_48]
     ·try simp at h_43
      cases hp
      simp [Goal,FnEnd,h_7,h_13,h_17,h_30,h_43]
 ·try simp at h_7
  cases hp
  simp [Goal,FnEnd,h_7]
theorem pc96:PC Tryz.prog 96 C96:=pc_of (g:=g96) (zaj _ g96_s.2.1 ⟨pc67,pc88,pc93,trivial⟩) (ent Tryz.func96) fun x y h=>w96 h

def C95:List AV→Option AV:=specP (X:=Int × Unit) fun x=>zcz x.1
theorem C95_eq {a_} {y} (h:zcz a_=some y):C95 [av .shr a_]=some (Res.res y):=zaf (x:=(a_,())) h
def g95:Cfg:={ P:=Tryz.prog,take:=[],keep:=[],gho:=[],ctx:=[(92,C92)] }
@[simp] theorem g95_s:type_of% (cfg_s (g:=g95) rfl):=cfg_s rfl
theorem w95 {a_} {y} (hp:zcz a_=some y):∃ m,callo g95 0 95 [av .shr a_] mem0=some (Res.res y,m):=by
 refine st0 [.tmp 2] Tryz.func95 ?_
 unfold zcz at hp
 obtain ⟨y_1,h_2,hp⟩:=zaa hp
 have c_3:=C92_eq h_2
 simp at c_3
 simp [Tryz.f95,c_3]
 rcases zad hp with ⟨h_4,hp⟩|⟨h_4,hp⟩
 ·try simp at h_4
  obtain ⟨z_5,h_6,hp⟩:=zaa hp
  have c_7:=sl_str Tryz.underlying9 h_6
  cases hp
  simp [Goal,FnEnd,h_4,c_7]
 ·try simp at h_4
  cases hp
  simp [Goal,FnEnd,h_4]
theorem pc95:PC Tryz.prog 95 C95:=pc_of (g:=g95) (zaj _ g95_s.2.1 ⟨pc92,trivial⟩) (ent Tryz.func95) fun x y h=>w95 h

def C68:List AV→Option AV:=specP (X:=TStructure × Int × Unit) fun x=>zdl x.1 x.2.1
theorem C68_eq {s i} {y} (h:zdl s i=some y):C68 [av .shr s,av .shr i]=some (Res.res y):=zaf (x:=(s,i,())) h
def g68:Cfg:={ P:=Tryz.prog,take:=[],keep:=[((68,5),{ hd:=[1,2,5,12,13],bx:=[],ex:=[5],rt:=[4] })],gho:=[],ctx:=[(93,C93),(94,C94),(95,C95),(96,C96)] }
@[simp] theorem g68_s:type_of% (cfg_s (g:=g68) rfl):=cfg_s rfl
theorem w68 {s i} {y} (hp:zdl s i=some y):∃ m,callo g68 0 68 [av .shr s,av .shr i] mem0=some (Res.res y,m):=by
 refine st0 [.tmp 4] Tryz.func68 ?_
 unfold zdl at hp
 obtain ⟨y_1,h_2,hp⟩:=zaa hp
 have c_3:=C93_eq h_2
 simp at c_3
 simp [Tryz.f68,c_3]
 rcases zad hp with ⟨h_4,hp⟩|⟨h_4,hp⟩
 ·try simp at h_4
  obtain ⟨y_5,h_6,hp⟩:=zaa hp
  have c_7:=C94_eq h_6
  simp at c_7
  try simp [h_4,c_7]
  obtain ⟨r_25,h_26,hp⟩:=zaa hp
  obtain ⟨I_10,I_10_⟩:=exV fun (s_8:ByteArray × Int) (σ:St)=>(σ.env 1=uI i∧σ.env 2=uP (1,2)∧σ.env 5=.one (.s (.string s_8.1))∧σ.env 12=uI y_5∧σ.env 13=uI s_8.2∧σ.mem (1,2)=some [cL .shr s.nodes,cL .shr s.next])∧NoBox [(1,2)] σ.mem
  obtain ⟨X_11,X_11_⟩:=exV fun (r_25:ByteArray) (out:Out)=>∃ σ:St,out=.exit 0 σ∧(σ.env 5=.one (.s (.string r_25))∧σ.mem (1,2)=some [cL .shr s.nodes,cL .shr s.next])∧NoBox [(1,2)] σ.mem
  refine loopP ({ hd:=[1,2,5,12,13],bx:=[],ex:=[5],rt:=[4] }) I_10 X_11 h_26 (by exact rfl) ?_ ?_ ?_
  ·rw [I_10_]
   exact ⟨by simp [zac,zab,h_4],NoBox.restrict (by intro k hk hb;simp at hk hb;simp [hk,hb,h_4])⟩
  ·intro s_8 σ_12 a_9 hI hp
   rw [I_10_] at hI
   obtain ⟨q_14,hn_13⟩:=hI
   try simp [h_4,q_14]
   rcases zad hp with ⟨h_15,hp⟩|⟨h_15,hp⟩
   ·try simp at h_15
    obtain ⟨y_16,h_17,hp⟩:=zaa hp
    have c_18:=C96_eq h_17
    simp at c_18
    obtain ⟨y_19,h_20,hp⟩:=zaa hp
    have c_21:=C95_eq h_20
    simp at c_21
    obtain ⟨z_22,h_23,hp⟩:=zaa hp
    have c_24:=zdd (P:=Tryz.prog) (t:=9) h_23
    cases hp
    try simp [h_4,q_14,h_15,c_18,c_21,c_24]
    refine zag ?_
    rw [I_10_]
    exact ⟨by simp [zac,zab,h_4,q_14,h_15,c_18,c_21,c_24],NoBox.restrict (by intro k hk hb;simp at hk hb;simp [hk,hb,h_4,q_14,h_15,c_18,c_21,c_24,hn_13 k (by simp [hk,hb])])⟩
   ·try simp at h_15
    cases hp
    try simp [h_4,q_14,h_15]
    refine zak ?_
    rw [X_11_]
    exact ⟨_,rfl,by simp [zac,zab,h_4,q_14,h_15],NoBox.restrict (by intro k hk hb;simp at hk hb;simp [hk,hb,h_4,q_14,h_15,hn_13 k (by simp [hk,hb])])⟩
  ·intro out hX
   rw [X_11_] at hX
   obtain ⟨σ_27,rfl,q_29,hn_28⟩:=hX
   cases hp
   simp [Goal,FnEnd,h_4,q_29]
 ·try simp at h_4
  cases hp
  simp [Goal,FnEnd,h_4]
theorem pc68:PC Tryz.prog 68 C68:=pc_of (g:=g68) (zaj _ g68_s.2.1 ⟨pc93,pc94,pc95,pc96,trivial⟩) (ent Tryz.func68) fun x y h=>w68 h

def C100:List AV→Option AV:=specP (X:=TStructure × Int × Int × Unit) fun x=>zdb x.1 x.2.1 x.2.2.1
theorem zsf {s i j} {y} (h:zdb s i j=some y):C100 [av .shr s,av .shr i,av .shr j]=some (Res.res y):=zaf (x:=(s,i,j,())) h
def g100:Cfg:={ P:=Tryz.prog,take:=[],keep:=[],gho:=[],ctx:=[(93,C93)] }
@[simp] theorem g100_s:type_of% (cfg_s (g:=g100) rfl):=cfg_s rfl
theorem w100 {s i j} {y} (hp:zdb s i j=some y):∃ m,callo g100 0 100 [av .shr s,av .shr i,av .shr j] mem0=some (Res.res y,m):=by
 refine st0 [.tmp 6] Tryz.func100 ?_
 unfold zdb at hp
 obtain ⟨y_1,h_2,hp⟩:=zaa hp
 have c_3:=C93_eq h_2
 simp at c_3
 simp [Tryz.f100,c_3]
 rcases zad hp with ⟨h_4,hp⟩|⟨h_4,hp⟩
 ·try simp at h_4
  obtain ⟨y_5,h_6,hp⟩:=zaa hp
  have c_7:=C93_eq h_6
  simp at c_7
  try simp [h_4,c_7]
  rcases zad hp with ⟨h_8,hp⟩|⟨h_8,hp⟩
  ·try simp at h_8
   try simp [h_4,h_8]
   rcases zad hp with ⟨h_9,hp⟩|⟨h_9,hp⟩
   ·try simp at h_9
    cases hp
    simp [Goal,FnEnd,h_4,h_8,h_9]
   ·try simp at h_9
    obtain ⟨e_10,h_11,hp⟩:=zaa hp
    have b_12:=at_lo h_11
    have b_13:=at_hi h_11
    try simp at b_12 b_13
    have c_14:=seg_at' h_11 0 1 (by decide) (ds:=[.sc (.int .i64 e_10)]) rfl
    try simp at c_14
    cases hp
    simp [Goal,FnEnd,h_4,h_8,h_9,b_12,b_13,c_14]
  ·try simp at h_8
   cases hp
   simp [Goal,FnEnd,h_4,h_8]
 ·try simp at h_4
  cases hp
  simp [Goal,FnEnd,h_4]
theorem pc100:PC Tryz.prog 100 C100:=pc_of (g:=g100) (zaj _ g100_s.2.1 ⟨pc93,trivial⟩) (ent Tryz.func100) fun x y h=>w100 h

def C101:List AV→Option AV:=specP (X:=Int × Int × Unit) fun x=>zfg x.1 x.2.1
theorem C101_eq {a_ b_} {y} (h:zfg a_ b_=some y):C101 [av .shr a_,av .shr b_]=some (Res.res y):=zaf (x:=(a_,b_,())) h
def g101:Cfg:={ P:=Tryz.prog,take:=[],keep:=[],gho:=[],ctx:=[(92,C92)] }
@[simp] theorem g101_s:type_of% (cfg_s (g:=g101) rfl):=cfg_s rfl
theorem w101 {a_ b_} {y} (hp:zfg a_ b_=some y):∃ m,callo g101 0 101 [av .shr a_,av .shr b_] mem0=some (Res.res y,m):=by
 refine st0 [.tmp 4] Tryz.func101 ?_
 unfold zfg at hp
 simp [Tryz.f101]
 rcases zad hp with ⟨h_1,hp⟩|⟨h_1,hp⟩
 ·try simp at h_1
  cases hp
  simp [Goal,FnEnd,h_1]
 ·try simp at h_1
  obtain ⟨y_2,h_3,hp⟩:=zaa hp
  have c_4:=C92_eq h_3
  simp at c_4
  try simp [h_1,c_4]
  rcases zad hp with ⟨h_5,hp⟩|⟨h_5,hp⟩
  ·try simp at h_5
   cases hp
   simp [Goal,FnEnd,h_1,h_5]
  ·try simp at h_5
   cases hp
   simp [Goal,FnEnd,h_1,h_5]
theorem pc101:PC Tryz.prog 101 C101:=pc_of (g:=g101) (zaj _ g101_s.2.1 ⟨pc92,trivial⟩) (ent Tryz.func101) fun x y h=>w101 h

def C72:List AV→Option AV:=specP (X:=TStructure × (List Int) × (List Int) × Unit) fun x=>zdk x.1 x.2.1 x.2.2.1
theorem C72_eq {s from_ to_} {y} (h:zdk s from_ to_=some y):C72 [av .shr s,av .shr from_,av .shr to_]=some (Res.res y):=zaf (x:=(s,from_,to_,())) h
def g72:Cfg:={ P:=Tryz.prog,take:=[],keep:=[((72,3),{ hd:=[2,3,7,20,21,22],bx:=[],ex:=[7],rt:=[6] }),((72,6),{ hd:=[2,3,7,9,20,21,22,26,27,28],bx:=[],ex:=[2,3,7,20,21,22],rt:=[6] })],gho:=[],ctx:=[(100,C100),(101,C101)] }
@[simp] theorem g72_s:type_of% (cfg_s (g:=g72) rfl):=cfg_s rfl
theorem w72 {s from_ to_} {y} (hp:zdk s from_ to_=some y):∃ m,callo g72 0 72 [av .shr s,av .shr from_,av .shr to_] mem0=some (Res.res y,m):=by
 refine st0 [.tmp 6] Tryz.func72 ?_
 unfold zdk at hp
 obtain ⟨e_1,h_2,hp⟩:=zaa hp
 have b_4:=at_hi h_2
 try simp at b_4
 have c_5:=seg_at' h_2 0 1 (by decide) (ds:=[.sc (.int .i64 e_1)]) rfl
 try simp at c_5
 obtain ⟨e_6,h_7,hp⟩:=zaa hp
 have b_9:=at_hi h_7
 try simp at b_9
 have c_10:=seg_at' h_7 0 1 (by decide) (ds:=[.sc (.int .i64 e_6)]) rfl
 try simp at c_10
 obtain ⟨y_11,h_12,hp⟩:=zaa hp
 have c_13:=zsf h_12
 simp at c_13
 simp [Tryz.f72,b_4,c_5,b_9,c_10,c_13]
 obtain ⟨r_51,h_52,hp⟩:=zaa hp
 obtain ⟨I_16,I_16_⟩:=exV fun (s_14:Int × Int) (σ:St)=>(σ.env 2=uL .shr to_∧σ.env 3=uP (1,3)∧σ.env 7=uI s_14.1∧σ.env 20=uL .shr from_∧σ.env 21=uI (from_.length:Int)∧σ.env 22=uI s_14.2∧σ.mem (1,3)=some [cL .shr s.nodes,cL .shr s.next])∧NoBox [(1,3)] σ.mem
 obtain ⟨X_17,X_17_⟩:=exV fun (r_51:Int) (out:Out)=>∃ σ:St,out=.exit 0 σ∧(σ.env 7=uI r_51∧σ.mem (1,3)=some [cL .shr s.nodes,cL .shr s.next])∧NoBox [(1,3)] σ.mem
 refine loopP ({ hd:=[2,3,7,20,21,22],bx:=[],ex:=[7],rt:=[6] }) I_16 X_17 h_52 (by exact rfl) ?_ ?_ ?_
 ·rw [I_16_]
  exact ⟨by simp [zac,zab],NoBox.restrict (by intro k hk hb;simp at hk hb;simp [hk,hb])⟩
 ·intro s_14 σ_18 a_15 hI hp
  rw [I_16_] at hI
  obtain ⟨q_20,hn_19⟩:=hI
  try simp [q_20]
  rcases zad hp with ⟨h_21,hp⟩|⟨h_21,hp⟩
  ·try simp at h_21
   obtain ⟨e_22,h_23,hp⟩:=zaa hp
   have b_24:=at_lo h_23
   have b_25:=at_hi h_23
   try simp at b_24 b_25
   have c_26:=seg_at' h_23 0 1 (by decide) (ds:=[.sc (.int .i64 e_22)]) rfl
   try simp at c_26
   try simp [q_20,h_21,b_24,b_25,c_26]
   obtain ⟨r_46,h_47,hp⟩:=zaa hp
   obtain ⟨I_29,I_29_⟩:=exV fun (s_27:Int × Int) (σ:St)=>(σ.env 2=uL .shr to_∧σ.env 3=uP (1,3)∧σ.env 7=uI s_27.1∧σ.env 9=uI e_22∧σ.env 20=uL .shr from_∧σ.env 21=uI (from_.length:Int)∧σ.env 22=uI s_14.2∧σ.env 26=uL .shr to_∧σ.env 27=uI (to_.length:Int)∧σ.env 28=uI s_27.2∧σ.mem (1,3)=some [cL .shr s.nodes,cL .shr s.next])∧NoBox [(1,3)] σ.mem
   obtain ⟨X_30,X_30_⟩:=exV fun (r_46:Int) (out:Out)=>∃ σ:St,out=.exit 2 σ∧(σ.env 2=uL .shr to_∧σ.env 3=uP (1,3)∧σ.env 7=uI r_46∧σ.env 20=uL .shr from_∧σ.env 21=uI (from_.length:Int)∧σ.env 22=uI s_14.2∧σ.mem (1,3)=some [cL .shr s.nodes,cL .shr s.next])∧NoBox [(1,3)] σ.mem
   refine loopP ({ hd:=[2,3,7,9,20,21,22,26,27,28],bx:=[],ex:=[2,3,7,20,21,22],rt:=[6] }) I_29 X_30 h_47 (by exact rfl) ?_ ?_ ?_
   ·rw [I_29_]
    exact ⟨by simp [zac,zab,q_20,h_21],NoBox.restrict (by intro k hk hb;simp at hk hb;simp [hk,hb,q_20,h_21,hn_19 k (by simp [hk,hb])])⟩
   ·intro s_27 σ_31 a_28 hI hp
    rw [I_29_] at hI
    obtain ⟨q_33,hn_32⟩:=hI
    try simp [h_21,q_33]
    rcases zad hp with ⟨h_34,hp⟩|⟨h_34,hp⟩
    ·try simp at h_34
     obtain ⟨e_35,h_36,hp⟩:=zaa hp
     have b_37:=at_lo h_36
     have b_38:=at_hi h_36
     try simp at b_37 b_38
     have c_39:=seg_at' h_36 0 1 (by decide) (ds:=[.sc (.int .i64 e_35)]) rfl
     try simp at c_39
     obtain ⟨y_40,h_41,hp⟩:=zaa hp
     have c_42:=zsf h_41
     simp at c_42
     obtain ⟨y_43,h_44,hp⟩:=zaa hp
     have c_45:=C101_eq h_44
     simp at c_45
     cases hp
     try simp [h_21,q_33,h_34,b_37,b_38,c_39,c_42,c_45]
     refine zag ?_
     rw [I_29_]
     exact ⟨by simp [zac,zab,h_21,q_33,h_34,b_37,b_38,c_39,c_42,c_45],NoBox.restrict (by intro k hk hb;simp at hk hb;simp [hk,hb,h_21,q_33,h_34,b_37,b_38,c_39,c_42,c_45,hn_32 k (by simp [hk,hb])])⟩
    ·try simp at h_34
     cases hp
     try simp [h_21,q_33,h_34]
     refine zak ?_
     rw [X_30_]
     exact ⟨_,rfl,by simp [zac,zab,h_21,q_33,h_34],NoBox.restrict (by intro k hk hb;simp at hk hb;simp [hk,hb,h_21,q_33,h_34,hn_32 k (by simp [hk,hb])])⟩
   ·intro out hX
    rw [X_30_] at hX
    obtain ⟨σ_48,rfl,q_50,hn_49⟩:=hX
    cases hp
    try simp [h_21,q_50]
    refine zag ?_
    rw [I_16_]
    exact ⟨by simp [zac,zab,h_21,q_50],NoBox.restrict (by intro k hk hb;simp at hk hb;simp [hk,hb,h_21,q_50,hn_49 k (by simp [hk,hb])])⟩
  ·try simp at h_21
   cases hp
   try simp [q_20,h_21]
   refine zak ?_
   rw [X_17_]
   exact ⟨_,rfl,by simp [zac,zab,q_20,h_21],NoBox.restrict (by intro k hk hb;simp at hk hb;simp [hk,hb,q_20,h_21,hn_19 k (by simp [hk,hb])])⟩
 ·intro out hX
  rw [X_17_] at hX
  obtain ⟨σ_53,rfl,q_55,hn_54⟩:=hX
  cases hp
  simp [Goal,FnEnd,q_55]
theorem pc72:PC Tryz.prog 72 C72:=pc_of (g:=g72) (zaj _ g72_s.2.1 ⟨pc100,pc101,trivial⟩) (ent Tryz.func72) fun x y h=>w72 h

def C36:List AV→Option AV:=specP (X:=TStructure × Unit) fun x=>zgf x.1
theorem C36_eq {s} {y} (h:zgf s=some y):C36 [av .shr s]=some (Res.res y):=zaf (x:=(s,())) h
def g36:Cfg:={ P:=Tryz.prog,take:=[(36,99),(36,100),(36,111),(36,125)],keep:=[((36,17),{ hd:=[1,2,3,4,7,60,61,62],bx:=[10],ex:=[2,7],rt:=[2] }),((36,21),{ hd:=[1,2,3,4,7,9,10,60,61,62,78,79,80],bx:=[],ex:=[1,2,3,4,7,9,10,60,61,62],rt:=[2] }),((36,28),{ hd:=[1,2,3,4,7,9,60,61,62,104,105,106],bx:=[],ex:=[1,2,3,4,7,60,61,62],rt:=[2] })],gho:=[],ctx:=[(50,C50),(66,C66),(67,C67),(68,C68),(71,C71),(72,C72)] }
@[simp] theorem g36_s:type_of% (cfg_s (g:=g36) rfl):=cfg_s rfl
theorem w36 {s} {y} (hp:zgf s=some y):∃ m,callP g36 36 (Tryz.f36.body.getD .skip) [.cell 2 34] 2 3 (pre12 C68) [av .shr s]=some (Res.res y,m):=by
 refine start_pre [.cell 2 34] ?_
 unfold zgf at hp
 simp [Tryz.f36,takeS,dropS]
 rcases zad hp with ⟨h_1,hp⟩|⟨h_1,hp⟩
 ·try simp at h_1
  cases hp
  simp [Goal,FnEnd,retR,rsrc,RSrc.val,nodupR,nodup,tupPart,h_1]
 ·try simp at h_1
  obtain ⟨y_2,h_3,hp⟩:=zaa hp
  have c_4:=C67_eq h_3
  simp at c_4
  obtain ⟨y_5,h_6,hp⟩:=zaa hp
  have c_7:=C66_eq h_6
  simp at c_7
  try simp [h_1,c_4,c_7]
  rcases zad hp with ⟨h_8,hp⟩|⟨h_8,hp⟩
  ·try simp at h_8
   obtain ⟨p_9,h_10,hp⟩:=zaa hp
   try simp [h_1,h_8]
   refine goal_pre (pre12_eq (F:=C68) (fun s i x h=>C68_eq h) (s:=s) h_10 (by simp [h_1,h_8]) (by simp [h_1,h_8])) ?_
   try simp [h_1,h_8]
   obtain ⟨r_96,h_97,hp⟩:=zaa hp
   obtain ⟨I_13,I_13_⟩:=exV fun (s_11:Int × (List TNode) × (List Int)) (σ:St)=>(σ.env 1=uP (1,1)∧σ.env 2=uP (1,2)∧σ.env 3=.one (.mp (encM p_9.1))∧σ.env 4=uL .shr p_9.2∧σ.env 7=uP (1,7)∧σ.env 60=uL .shr p_9.2∧σ.env 61=uI (p_9.2.length:Int)∧σ.env 62=uI s_11.1∧σ.mem (1,1)=some [cL .shr s.nodes,cL .shr s.next]∧σ.mem (1,2)=some [.l .own 0 [],.l .own 0 []]∧σ.mem (1,7)=some [cL .own s_11.2.1,cL .own s_11.2.2])∧NoBox [(1,1),(1,2),(1,7)] σ.mem
   obtain ⟨X_14,X_14_⟩:=exV fun (r_96:(List TNode) × (List Int)) (out:Out)=>∃ σ:St,out=.exit 3 σ∧(σ.env 2=uP (1,2)∧σ.env 7=uP (1,7)∧σ.mem (1,1)=some [cL .shr s.nodes,cL .shr s.next]∧σ.mem (1,2)=some [.l .own 0 [],.l .own 0 []]∧σ.mem (1,7)=some [cL .own r_96.1,cL .own r_96.2])∧NoBox [(1,1),(1,2),(1,7)] σ.mem
   refine loopP ({ hd:=[1,2,3,4,7,60,61,62],bx:=[10],ex:=[2,7],rt:=[2] }) I_13 X_14 h_97 (by exact rfl) ?_ ?_ ?_
   ·rw [I_13_]
    exact ⟨by simp [zac,zab,h_1,h_8],NoBox.restrict (by intro k hk hb;simp at hk hb;simp [hk,hb,h_1,h_8])⟩
   ·intro s_11 σ_15 a_12 hI hp
    rw [I_13_] at hI
    obtain ⟨q_17,hn_16⟩:=hI
    try simp [h_1,h_8,q_17]
    rcases zad hp with ⟨h_18,hp⟩|⟨h_18,hp⟩
    ·try simp at h_18
     obtain ⟨e_19,h_20,hp⟩:=zaa hp
     have b_21:=at_lo h_20
     have b_22:=at_hi h_20
     try simp at b_21 b_22
     have c_23:=seg_at' h_20 0 1 (by decide) (ds:=[.sc (.string e_19)]) rfl
     try simp at c_23
     obtain ⟨y_24,h_25,hp⟩:=zaa hp
     have c_26:=zou h_25
     obtain ⟨e_27,h_28,hp⟩:=zaa hp
     have b_30:=at_hi h_28
     try simp at b_30
     have c_31:=seg_at' h_28 0 1 (by decide) (ds:=[.sc (.int .i64 e_27)]) rfl
     try simp at c_31
     obtain ⟨e_32,h_33,hp⟩:=zaa hp
     have b_34:=at_lo h_33
     have b_35:=at_hi h_33
     try simp at b_34 b_35
     have c_36:=seg_at' h_33 0 4 (by decide) (ds:=[.sl e_32.vars.length (encL e_32.vars),.sl e_32.reach.length (encL e_32.reach),.sc (.int .i64 e_32.shared),.sc (.int .i64 e_32.many)]) rfl
     try simp at c_36
     obtain ⟨y_37,h_38,hp⟩:=zaa hp
     have c_39:=C71_eq h_38
     simp at c_39
     have n_40:=hn_16 (1,10) (by simp)
     obtain ⟨_,h_41,hp⟩:=zaa hp
     cases Option.some.inj (h_25.symm.trans h_41)
     try simp [h_1,h_8,q_17,h_18,b_21,b_22,c_23,Tryz.underlying89,Tryz.underlying9,c_26,b_30,c_31,b_34,b_35,c_36,c_39,n_40,Tryz.underlying89,Tryz.underlying9,c_26]
     obtain ⟨r_62,h_63,hp⟩:=zaa hp
     obtain ⟨I_44,I_44_⟩:=exV fun (s_42:Int × Int) (σ:St)=>(σ.env 1=uP (1,1)∧σ.env 2=uP (1,2)∧σ.env 3=.one (.mp (encM p_9.1))∧σ.env 4=uL .shr p_9.2∧σ.env 7=uP (1,7)∧σ.env 9=.one (.s (.string e_19))∧σ.env 10=uP (1,10)∧σ.env 60=uL .shr p_9.2∧σ.env 61=uI (p_9.2.length:Int)∧σ.env 62=uI s_11.1∧σ.env 78=uL .shr y_24∧σ.env 79=uI (y_24.length:Int)∧σ.env 80=uI s_42.1∧σ.mem (1,1)=some [cL .shr s.nodes,cL .shr s.next]∧σ.mem (1,2)=some [.l .own 0 [],.l .own 0 []]∧σ.mem (1,7)=some [cL .own s_11.2.1,cL .own s_11.2.2]∧σ.mem (1,10)=some [cL .own y_37.vars,cL .own y_37.reach,cI y_37.shared,cI s_42.2])∧NoBox [(1,1),(1,2),(1,7),(1,10)] σ.mem
     obtain ⟨X_45,X_45_⟩:=exV fun (r_62:Int) (out:Out)=>∃ σ:St,out=.exit 5 σ∧(σ.env 1=uP (1,1)∧σ.env 2=uP (1,2)∧σ.env 3=.one (.mp (encM p_9.1))∧σ.env 4=uL .shr p_9.2∧σ.env 7=uP (1,7)∧σ.env 9=.one (.s (.string e_19))∧σ.env 10=uP (1,10)∧σ.env 60=uL .shr p_9.2∧σ.env 61=uI (p_9.2.length:Int)∧σ.env 62=uI s_11.1∧σ.mem (1,1)=some [cL .shr s.nodes,cL .shr s.next]∧σ.mem (1,2)=some [.l .own 0 [],.l .own 0 []]∧σ.mem (1,7)=some [cL .own s_11.2.1,cL .own s_11.2.2]∧σ.mem (1,10)=some [cL .own y_37.vars,cL .own y_37.reach,cI y_37.shared,cI r_62])∧NoBox [(1,1),(1,2),(1,7),(1,10)] σ.mem
     refine loopP ({ hd:=[1,2,3,4,7,9,10,60,61,62,78,79,80],bx:=[],ex:=[1,2,3,4,7,9,10,60,61,62],rt:=[2] }) I_44 X_45 h_63 (by exact rfl) ?_ ?_ ?_
     ·rw [I_44_]
      exact ⟨by simp [zac,zab,h_1,h_8,q_17,h_18],NoBox.restrict (by intro k hk hb;simp at hk hb;simp [hk,hb,h_1,h_8,q_17,h_18,hn_16 k (by simp [hk,hb])])⟩
     ·intro s_42 σ_46 a_43 hI hp
      rw [I_44_] at hI
      obtain ⟨q_48,hn_47⟩:=hI
      try simp [h_1,h_8,h_18,q_48]
      rcases zad hp with ⟨h_49,hp⟩|⟨h_49,hp⟩
      ·try simp at h_49
       obtain ⟨e_50,h_51,hp⟩:=zaa hp
       have b_52:=at_lo h_51
       have b_53:=at_hi h_51
       try simp at b_52 b_53
       have c_54:=seg_at' h_51 0 1 (by decide) (ds:=[.sc (.int .i64 e_50)]) rfl
       try simp at c_54
       try simp [h_1,h_8,h_18,q_48,h_49,b_52,b_53,c_54]
       rcases zad hp with ⟨h_55,hp⟩|⟨h_55,hp⟩
       ·try simp at h_55
        cases hp
        try simp [h_1,h_8,h_18,q_48,h_49,h_55]
        refine zag ?_
        rw [I_44_]
        exact ⟨by simp [zac,zab,h_1,h_8,h_18,q_48,h_49,h_55],NoBox.restrict (by intro k hk hb;simp at hk hb;simp [hk,hb,h_1,h_8,h_18,q_48,h_49,h_55,hn_47 k (by simp [hk,hb])])⟩
       ·try simp at h_55
        obtain ⟨e_56,h_57,hp⟩:=zaa hp
        have b_58:=at_lo h_57
        have b_59:=at_hi h_57
        try simp at b_58 b_59
        have c_60:=seg_at' h_57 3 1 (by decide) (ds:=[.sc (.int .i64 e_56.many)]) rfl
        try simp at c_60
        try simp [h_1,h_8,h_18,q_48,h_49,h_55,b_58,b_59,c_60]
        rcases zad hp with ⟨h_61,hp⟩|⟨h_61,hp⟩
        ·try simp at h_61
         cases hp
         try simp [h_1,h_8,h_18,q_48,h_49,h_55,h_61]
         refine zag ?_
         rw [I_44_]
         exact ⟨by simp [zac,zab,h_1,h_8,h_18,q_48,h_49,h_55,h_61],NoBox.restrict (by intro k hk hb;simp at hk hb;simp [hk,hb,h_1,h_8,h_18,q_48,h_49,h_55,h_61,hn_47 k (by simp [hk,hb])])⟩
        ·try simp at h_61
         cases hp
         try simp [h_1,h_8,h_18,q_48,h_49,h_55,h_61]
         refine zag ?_
         rw [I_44_]
         exact ⟨by simp [zac,zab,h_1,h_8,h_18,q_48,h_49,h_55,h_61],NoBox.restrict (by intro k hk hb;simp at hk hb;simp [hk,hb,h_1,h_8,h_18,q_48,h_49,h_55,h_61,hn_47 k (by simp [hk,hb])])⟩
      ·try simp at h_49
       cases hp
       try simp [h_1,h_8,h_18,q_48,h_49]
       refine zak ?_
       rw [X_45_]
       exact ⟨_,rfl,by simp [zac,zab,h_1,h_8,h_18,q_48,h_49],NoBox.restrict (by intro k hk hb;simp at hk hb;simp [hk,hb,h_1,h_8,h_18,q_48,h_49,hn_47 k (by simp [hk,hb])])⟩
     ·intro out hX
      rw [X_45_] at hX
      obtain ⟨σ_64,rfl,q_66,hn_65⟩:=hX
      obtain ⟨_,h_67,hp⟩:=zaa hp
      have b_68:=zbw h_67
      try simp at b_68
      try simp [h_1,h_8,h_18,q_66,b_68]
      obtain ⟨r_91,h_92,hp⟩:=zaa hp
      obtain ⟨I_71,I_71_⟩:=exV fun (s_69:Int × (List Int)) (σ:St)=>(σ.env 1=uP (1,1)∧σ.env 2=uP (1,2)∧σ.env 3=.one (.mp (encM p_9.1))∧σ.env 4=uL .shr p_9.2∧σ.env 7=uP (1,7)∧σ.env 9=.one (.s (.string e_19))∧σ.env 60=uL .shr p_9.2∧σ.env 61=uI (p_9.2.length:Int)∧σ.env 62=uI s_11.1∧σ.env 104=uL .shr p_9.2∧σ.env 105=uI (p_9.2.length:Int)∧σ.env 106=uI s_69.1∧σ.mem (1,1)=some [cL .shr s.nodes,cL .shr s.next]∧σ.mem (1,2)=some [.l .own 0 [],.l .own 0 []]∧σ.mem (1,7)=some [cL .own (s_11.2.1 ++ [(⟨y_37.vars,y_37.reach,y_37.shared,r_62⟩:TNode)]),cL .own s_69.2]∧σ.mem (1,10)=some [.dead,.dead,.dead,.dead])∧NoBox [(1,1),(1,2),(1,7),(1,10)] σ.mem
      obtain ⟨X_72,X_72_⟩:=exV fun (r_91:(List Int)) (out:Out)=>∃ σ:St,out=.exit 7 σ∧(σ.env 1=uP (1,1)∧σ.env 2=uP (1,2)∧σ.env 3=.one (.mp (encM p_9.1))∧σ.env 4=uL .shr p_9.2∧σ.env 7=uP (1,7)∧σ.env 60=uL .shr p_9.2∧σ.env 61=uI (p_9.2.length:Int)∧σ.env 62=uI s_11.1∧σ.mem (1,1)=some [cL .shr s.nodes,cL .shr s.next]∧σ.mem (1,2)=some [.l .own 0 [],.l .own 0 []]∧σ.mem (1,7)=some [cL .own (s_11.2.1 ++ [(⟨y_37.vars,y_37.reach,y_37.shared,r_62⟩:TNode)]),cL .own r_91]∧σ.mem (1,10)=some [.dead,.dead,.dead,.dead])∧NoBox [(1,1),(1,2),(1,7),(1,10)] σ.mem
      refine loopP ({ hd:=[1,2,3,4,7,9,60,61,62,104,105,106],bx:=[],ex:=[1,2,3,4,7,60,61,62],rt:=[2] }) I_71 X_72 h_92 (by exact rfl) ?_ ?_ ?_
      ·rw [I_71_]
       exact ⟨by simp [zac,zab,h_1,h_8,h_18,q_66],NoBox.restrict (by intro k hk hb;simp at hk hb;simp [hk,hb,h_1,h_8,h_18,q_66,hn_65 k (by simp [hk,hb])])⟩
      ·intro s_69 σ_73 a_70 hI hp
       rw [I_71_] at hI
       obtain ⟨q_75,hn_74⟩:=hI
       try simp [h_1,h_8,h_18,q_75]
       rcases zad hp with ⟨h_76,hp⟩|⟨h_76,hp⟩
       ·try simp at h_76
        obtain ⟨e_77,h_78,hp⟩:=zaa hp
        have b_79:=at_lo h_78
        have b_80:=at_hi h_78
        try simp at b_79 b_80
        have c_81:=seg_at' h_78 0 1 (by decide) (ds:=[.sc (.string e_77)]) rfl
        try simp at c_81
        obtain ⟨_,h_82,hp⟩:=zaa hp
        cases Option.some.inj (h_25.symm.trans h_82)
        obtain ⟨y_83,h_84,hp⟩:=zaa hp
        have c_85:=zou h_84
        obtain ⟨y_86,h_87,hp⟩:=zaa hp
        have c_88:=C72_eq h_87
        simp at c_88
        obtain ⟨_,h_89,hp⟩:=zaa hp
        have b_90:=zbw h_89
        try simp at b_90
        cases hp
        try simp [h_1,h_8,h_18,q_75,h_76,b_79,b_80,c_81,Tryz.underlying89,Tryz.underlying9,c_26,Tryz.underlying89,Tryz.underlying9,c_85,c_88,b_90]
        refine zag ?_
        rw [I_71_]
        exact ⟨by simp [zac,zab,h_1,h_8,h_18,q_75,h_76,b_79,b_80,c_81,Tryz.underlying89,Tryz.underlying9,c_26,Tryz.underlying89,Tryz.underlying9,c_85,c_88,b_90],NoBox.restrict (by intro k hk hb;simp at hk hb;simp [hk,hb,h_1,h_8,h_18,q_75,h_76,b_79,b_80,c_81,Tryz.underlying89,Tryz.underlying9,c_26,Tryz.underlying89,Tryz.underlying9,c_85,c_88,b_90,hn_74 k (by simp [hk,hb])])⟩
       ·try simp at h_76
        cases hp
        try simp [h_1,h_8,h_18,q_75,h_76]
        refine zak ?_
        rw [X_72_]
        exact ⟨_,rfl,by simp [zac,zab,h_1,h_8,h_18,q_75,h_76],NoBox.restrict (by intro k hk hb;simp at hk hb;simp [hk,hb,h_1,h_8,h_18,q_75,h_76,hn_74 k (by simp [hk,hb])])⟩
      ·intro out hX
       rw [X_72_] at hX
       obtain ⟨σ_93,rfl,q_95,hn_94⟩:=hX
       cases hp
       try simp [h_1,h_8,h_18,q_95]
       refine zag ?_
       rw [I_13_]
       exact ⟨by simp [zac,zab,h_1,h_8,h_18,q_95],NoBox.restrict (by intro k hk hb;simp at hk hb;simp [hk,hb,h_1,h_8,h_18,q_95,hn_94 k (by simp [hk,hb])])⟩
    ·try simp at h_18
     cases hp
     try simp [h_1,h_8,q_17,h_18]
     refine zak ?_
     rw [X_14_]
     exact ⟨_,rfl,by simp [zac,zab,h_1,h_8,q_17,h_18],NoBox.restrict (by intro k hk hb;simp at hk hb;simp [hk,hb,h_1,h_8,q_17,h_18,hn_16 k (by simp [hk,hb])])⟩
   ·intro out hX
    rw [X_14_] at hX
    obtain ⟨σ_98,rfl,q_100,hn_99⟩:=hX
    cases hp
    simp [Goal,FnEnd,retR,rsrc,RSrc.val,nodupR,nodup,tupPart,h_1,h_8,q_100]
  ·try simp at h_8
   obtain ⟨y_101,h_102,hp⟩:=zaa hp
   have c_103:=C50_eq h_102
   simp at c_103
   cases hp
   simp [Goal,FnEnd,retR,rsrc,RSrc.val,nodupR,nodup,tupPart,h_1,h_8,c_103]
theorem pc36:PC Tryz.prog 36 C36:=pc_of_pre (g:=g36) (zaj _ g36_s.2.1 ⟨pc50,pc66,pc67,pc68,pc71,pc72,trivial⟩) (n1:=2) (n2:=3) (c:=(Tryz.f36.body.getD .skip)) Tryz.func36 (by kernel_rfl) (by kernel_rfl) (preOK12 pc68) (fun x=>by show _≤126;simp [Args.args]) fun x y h=>w36 h

def C138:List AV→Option AV:=specP (X:=ByteArray × Unit) fun x=>zfh x.1
theorem C138_eq {s} {y} (h:zfh s=some y):C138 [av .shr s]=some (Res.res y):=zaf (x:=(s,())) h
def g138:Cfg:={ P:=Tryz.prog,take:=[],keep:=[((138,2),{ hd:=[0,5,6],bx:=[],ex:=[0],rt:=[2] })],gho:=[],ctx:=[(88,C88)] }
@[simp] theorem g138_s:type_of% (cfg_s (g:=g138) rfl):=cfg_s rfl
theorem w138 {s} {y} (hp:zfh s=some y):∃ m,callo g138 0 138 [av .shr s] mem0=some (Res.res y,m):=by
 refine st0 [.tmp 2] Tryz.func138 ?_
 unfold zfh at hp
 simp [Tryz.f138]
 obtain ⟨r_15,h_16,hp⟩:=zaa hp
 obtain ⟨I_3,I_3_⟩:=exV fun (s_1:Int) (σ:St)=>(σ.env 0=.one (.s (.string s))∧σ.env 5=uI (s.size:Int)∧σ.env 6=uI s_1)∧σ.mem=mem0
 obtain ⟨X_4,X_4_⟩:=exV fun (r_15:(Unit) ⊕ (Unit)) (out:Out)=>Sum.elim (fun r_15=>∃ σ:St,out=.ret σ∧σ.env 2=uB false∧σ.mem=mem0) (fun r_15=>∃ σ:St,out=.exit 0 σ∧σ.env 0=.one (.s (.string s))∧σ.mem=mem0) r_15
 refine loopP ({ hd:=[0,5,6],bx:=[],ex:=[0],rt:=[2] }) I_3 X_4 h_16 (by exact rfl) ?_ ?_ ?_
 ·rw [I_3_]
  exact ⟨by simp [zac,zab],by simp [zab]⟩
 ·intro s_1 σ_5 a_2 hI hp
  rw [I_3_] at hI
  obtain ⟨q_7,q_6⟩:=hI
  try simp [q_7,q_6]
  rcases zad hp with ⟨h_8,hp⟩|⟨h_8,hp⟩
  ·try simp at h_8
   obtain ⟨e_9,h_10,hp⟩:=zaa hp
   have c_11:=idx_str Tryz.underlying9 h_10
   try simp [q_7,q_6,h_8,c_11]
   rcases zad hp with ⟨h_12,hp⟩|⟨h_12,hp⟩
   ·try simp at h_12
    cases hp
    try simp [q_7,q_6,h_8,h_12]
    refine zao ?_
    rw [X_4_]
    exact ⟨_,rfl,by simp [zac,zab,q_7,q_6,h_8,h_12],by simp [zab,q_7,q_6,h_8,h_12]⟩
   ·try simp at h_12
    obtain ⟨_,h_13,hp⟩:=zaa hp
    cases Option.some.inj (h_10.symm.trans h_13)
    try simp [q_7,q_6,h_8,h_12,c_11]
    rcases zad hp with ⟨h_14,hp⟩|⟨h_14,hp⟩
    ·try simp at h_14
     cases hp
     try simp [q_7,q_6,h_8,h_12,h_14]
     refine zao ?_
     rw [X_4_]
     exact ⟨_,rfl,by simp [zac,zab,q_7,q_6,h_8,h_12,h_14],by simp [zab,q_7,q_6,h_8,h_12,h_14]⟩
    ·try simp at h_14
     cases hp
     try simp [q_7,q_6,h_8,h_12,h_14]
     refine zag ?_
     rw [I_3_]
     exact ⟨by simp [zac,zab,q_7,q_6,h_8,h_12,h_14],by simp [zab,q_7,q_6,h_8,h_12,h_14]⟩
  ·try simp at h_8
   cases hp
   try simp [q_7,q_6,h_8]
   refine zak ?_
   rw [X_4_]
   exact ⟨_,rfl,by simp [zac,zab,q_7,q_6,h_8],by simp [zab,q_7,q_6,h_8]⟩
 ·intro out hX
  rw [X_4_] at hX
  rcases r_15 with r_15 | r_15
  ·simp only [Sum.elim_inl,Sum.elim_inr] at hX hp
   obtain ⟨σ_17,rfl,q_19,q_18⟩:=hX
   cases hp
   simp [Goal,FnEnd,q_19,q_18]
  ·simp only [Sum.elim_inl,Sum.elim_inr] at hX hp
   obtain ⟨σ_20,rfl,q_22,q_21⟩:=hX
   obtain ⟨y_23,h_24,hp⟩:=zaa hp
   have c_25:=zkf h_24
   simp at c_25
   cases hp
   simp [Goal,FnEnd,q_22,q_21,c_25]
theorem pc138:PC Tryz.prog 138 C138:=pc_of (g:=g138) (zaj _ g138_s.2.1 ⟨pc88,trivial⟩) (ent Tryz.func138) fun x y h=>w138 h

def C154:List AV→Option AV:=specP (X:=(List ByteArray) × ByteArray × Unit) fun x=>zbl x.1 x.2.1
theorem C154_eq {s v} {y} (h:zbl s v=some y):C154 [av .shr s,av .shr v]=some (Res.res y):=zaf (x:=(s,v,())) h
def g154:Cfg:={ P:=Tryz.prog,take:=[],keep:=[((154,2),{ hd:=[0,1,7,8],bx:=[],ex:=[],rt:=[4] })],gho:=[],ctx:=[] }
@[simp] theorem g154_s:type_of% (cfg_s (g:=g154) rfl):=cfg_s rfl
theorem w154 {s v} {y} (hp:zbl s v=some y):∃ m,callo g154 0 154 [av .shr s,av .shr v] mem0=some (Res.res y,m):=by
 refine st0 [.tmp 4] Tryz.func154 ?_
 unfold zbl at hp
 simp [Tryz.f154]
 obtain ⟨r_15,h_16,hp⟩:=zaa hp
 obtain ⟨I_3,I_3_⟩:=exV fun (s_1:Int) (σ:St)=>(σ.env 0=uL .shr s∧σ.env 1=.one (.s (.string v))∧σ.env 7=uI (s.length:Int)∧σ.env 8=uI s_1)∧σ.mem=mem0
 obtain ⟨X_4,X_4_⟩:=exV fun (r_15:(Int) ⊕ (Unit)) (out:Out)=>Sum.elim (fun r_15=>∃ σ:St,out=.ret σ∧σ.env 4=uI r_15∧σ.mem=mem0) (fun r_15=>∃ σ:St,out=.exit 0 σ∧σ.mem=mem0) r_15
 refine loopP ({ hd:=[0,1,7,8],bx:=[],ex:=[],rt:=[4] }) I_3 X_4 h_16 (by exact rfl) ?_ ?_ ?_
 ·rw [I_3_]
  exact ⟨by simp [zac,zab],by simp [zab]⟩
 ·intro s_1 σ_5 a_2 hI hp
  rw [I_3_] at hI
  obtain ⟨q_7,q_6⟩:=hI
  try simp [q_7,q_6]
  rcases zad hp with ⟨h_8,hp⟩|⟨h_8,hp⟩
  ·try simp at h_8
   obtain ⟨e_9,h_10,hp⟩:=zaa hp
   have b_11:=at_lo h_10
   have b_12:=at_hi h_10
   try simp at b_11 b_12
   have c_13:=seg_at' h_10 0 1 (by decide) (ds:=[.sc (.string e_9)]) rfl
   try simp at c_13
   try simp [q_7,q_6,h_8,b_11,b_12,c_13]
   rcases zad hp with ⟨h_14,hp⟩|⟨h_14,hp⟩
   ·try simp at h_14
    cases hp
    try simp [q_7,q_6,h_8,h_14]
    refine zao ?_
    rw [X_4_]
    exact ⟨_,rfl,by simp [zac,zab,q_7,q_6,h_8,h_14],by simp [zab,q_7,q_6,h_8,h_14]⟩
   ·try simp at h_14
    cases hp
    try simp [q_7,q_6,h_8,h_14]
    refine zag ?_
    rw [I_3_]
    exact ⟨by simp [zac,zab,q_7,q_6,h_8,h_14],by simp [zab,q_7,q_6,h_8,h_14]⟩
  ·try simp at h_8
   cases hp
   try simp [q_7,q_6,h_8]
   refine zak ?_
   rw [X_4_]
   exact ⟨_,rfl,by simp [zab,q_7,q_6,h_8]⟩
 ·intro out hX
  rw [X_4_] at hX
  rcases r_15 with r_15 | r_15
  ·simp only [Sum.elim_inl,Sum.elim_inr] at hX hp
   obtain ⟨σ_17,rfl,q_19,q_18⟩:=hX
   cases hp
   simp [Goal,FnEnd,q_19,q_18]
  ·simp only [Sum.elim_inl,Sum.elim_inr] at hX hp
   obtain ⟨σ_20,rfl,q_21⟩:=hX
   cases hp
   simp [Goal,FnEnd,q_21]
theorem pc154:PC Tryz.prog 154 C154:=pc_of (g:=g154) (zaj [] rfl trivial) (ent Tryz.func154) fun x y h=>w154 h

def C139:List AV→Option AV:=specP (X:=(List ByteArray) × ByteArray × Unit) fun x=>zej x.1 x.2.1
theorem C139_eq {list s} {y} (h:zej list s=some y):C139 [av .shr list,av .shr s]=some (Res.res y):=zaf (x:=(list,s,())) h
def g139:Cfg:={ P:=Tryz.prog,take:=[],keep:=[],gho:=[],ctx:=[(154,C154)] }
@[simp] theorem g139_s:type_of% (cfg_s (g:=g139) rfl):=cfg_s rfl
theorem w139 {list s} {y} (hp:zej list s=some y):∃ m,callo g139 0 139 [av .shr list,av .shr s] mem0=some (Res.res y,m):=by
 refine st0 [.tmp 4] Tryz.func139 ?_
 unfold zej at hp
 obtain ⟨y_1,h_2,hp⟩:=zaa hp
 have c_3:=C154_eq h_2
 simp at c_3
 cases hp
 simp [Tryz.f139,Goal,FnEnd,c_3]
theorem pc139:PC Tryz.prog 139 C139:=pc_of (g:=g139) (zaj _ g139_s.2.1 ⟨pc154,trivial⟩) (ent Tryz.func139) fun x y h=>w139 h

def C102:List AV→Option AV:=specP (X:=(List ByteArray) × Unit) fun x=>zcf x.1
theorem C102_eq {list} {y} (h:zcf list=some y):C102 [av .shr list]=some (Res.res y):=zaf (x:=(list,())) h
def g102:Cfg:={ P:=Tryz.prog,take:=[],keep:=[((102,2),{ hd:=[0,5,6,7],bx:=[],ex:=[0],rt:=[2] })],gho:=[],ctx:=[(88,C88),(138,C138),(139,C139)] }
@[simp] theorem g102_s:type_of% (cfg_s (g:=g102) rfl):=cfg_s rfl
theorem w102 {list} {y} (hp:zcf list=some y):∃ m,callo g102 0 102 [av .shr list] mem0=some (Res.res y,m):=by
 refine st0 [.tmp 2] Tryz.func102 ?_
 unfold zcf at hp
 simp [Tryz.f102]
 obtain ⟨r_22,h_23,hp⟩:=zaa hp
 obtain ⟨I_3,I_3_⟩:=exV fun (s_1:Int) (σ:St)=>(σ.env 0=uL .shr list∧σ.env 5=uL .shr list∧σ.env 6=uI (list.length:Int)∧σ.env 7=uI s_1)∧σ.mem=mem0
 obtain ⟨X_4,X_4_⟩:=exV fun (r_22:(Unit) ⊕ (Unit)) (out:Out)=>Sum.elim (fun r_22=>∃ σ:St,out=.ret σ∧σ.env 2=uB false∧σ.mem=mem0) (fun r_22=>∃ σ:St,out=.exit 0 σ∧σ.env 0=uL .shr list∧σ.mem=mem0) r_22
 refine loopP ({ hd:=[0,5,6,7],bx:=[],ex:=[0],rt:=[2] }) I_3 X_4 h_23 (by exact rfl) ?_ ?_ ?_
 ·rw [I_3_]
  exact ⟨by simp [zac,zab],by simp [zab]⟩
 ·intro s_1 σ_5 a_2 hI hp
  rw [I_3_] at hI
  obtain ⟨q_7,q_6⟩:=hI
  try simp [q_7,q_6]
  rcases zad hp with ⟨h_8,hp⟩|⟨h_8,hp⟩
  ·try simp at h_8
   obtain ⟨e_9,h_10,hp⟩:=zaa hp
   have b_11:=at_lo h_10
   have b_12:=at_hi h_10
   try simp at b_11 b_12
   have c_13:=seg_at' h_10 0 1 (by decide) (ds:=[.sc (.string e_9)]) rfl
   try simp at c_13
   obtain ⟨y_14,h_15,hp⟩:=zaa hp
   have c_16:=C138_eq h_15
   simp at c_16
   try simp [q_7,q_6,h_8,b_11,b_12,c_13,c_16]
   rcases zad hp with ⟨h_17,hp⟩|⟨h_17,hp⟩
   ·try simp at h_17
    obtain ⟨y_18,h_19,hp⟩:=zaa hp
    have c_20:=C139_eq h_19
    simp at c_20
    try simp [q_7,q_6,h_8,h_17,c_20]
    rcases zad hp with ⟨h_21,hp⟩|⟨h_21,hp⟩
    ·try simp at h_21
     cases hp
     try simp [q_7,q_6,h_8,h_17,h_21]
     refine zao ?_
     rw [X_4_]
     exact ⟨_,rfl,by simp [zac,zab,q_7,q_6,h_8,h_17,h_21],by simp [zab,q_7,q_6,h_8,h_17,h_21]⟩
    ·try simp at h_21
     cases hp
     try simp [q_7,q_6,h_8,h_17,h_21]
     refine zag ?_
     rw [I_3_]
     exact ⟨by simp [zac,zab,q_7,q_6,h_8,h_17,h_21],by simp [zab,q_7,q_6,h_8,h_17,h_21]⟩
   ·try simp at h_17
    cases hp
    try simp [q_7,q_6,h_8,h_17]
    refine zao ?_
    rw [X_4_]
    exact ⟨_,rfl,by simp [zac,zab,q_7,q_6,h_8,h_17],by simp [zab,q_7,q_6,h_8,h_17]⟩
  ·try simp at h_8
   cases hp
   try simp [q_7,q_6,h_8]
   refine zak ?_
   rw [X_4_]
   exact ⟨_,rfl,by simp [zac,zab,q_7,q_6,h_8],by simp [zab,q_7,q_6,h_8]⟩
 ·intro out hX
  rw [X_4_] at hX
  rcases r_22 with r_22 | r_22
  ·simp only [Sum.elim_inl,Sum.elim_inr] at hX hp
   obtain ⟨σ_24,rfl,q_26,q_25⟩:=hX
   cases hp
   simp [Goal,FnEnd,q_26,q_25]
  ·simp only [Sum.elim_inl,Sum.elim_inr] at hX hp
   obtain ⟨σ_27,rfl,q_29,q_28⟩:=hX
   obtain ⟨y_30,h_31,hp⟩:=zaa hp
   have c_32:=zkf h_31
   simp at c_32
   cases hp
   simp [Goal,FnEnd,q_29,q_28,c_32]
theorem pc102:PC Tryz.prog 102 C102:=pc_of (g:=g102) (zaj _ g102_s.2.1 ⟨pc88,pc138,pc139,trivial⟩) (ent Tryz.func102) fun x y h=>w102 h

def C103:List AV→Option AV:=specP (X:=(List Int) × Unit) fun x=>zbx x.1
theorem C103_eq {list} {y} (h:zbx list=some y):C103 [av .shr list]=some (Res.res y):=zaf (x:=(list,())) h
def g103:Cfg:={ P:=Tryz.prog,take:=[],keep:=[((103,3),{ hd:=[3,6,7,8],bx:=[],ex:=[3],rt:=[2] })],gho:=[],ctx:=[(95,C95)] }
@[simp] theorem g103_s:type_of% (cfg_s (g:=g103) rfl):=cfg_s rfl
theorem w103 {list} {y} (hp:zbx list=some y):∃ m,callo g103 0 103 [av .shr list] mem0=some (Res.res y,m):=by
 refine st0 [.tmp 2] Tryz.func103 ?_
 unfold zbx at hp
 simp [Tryz.f103]
 obtain ⟨r_20,h_21,hp⟩:=zaa hp
 obtain ⟨I_3,I_3_⟩:=exV fun (s_1:ByteArray × Int) (σ:St)=>(σ.env 3=.one (.s (.string s_1.1))∧σ.env 6=uL .shr list∧σ.env 7=uI (list.length:Int)∧σ.env 8=uI s_1.2)∧σ.mem=mem0
 obtain ⟨X_4,X_4_⟩:=exV fun (r_20:ByteArray) (out:Out)=>∃ σ:St,out=.exit 0 σ∧σ.env 3=.one (.s (.string r_20))∧σ.mem=mem0
 refine loopP ({ hd:=[3,6,7,8],bx:=[],ex:=[3],rt:=[2] }) I_3 X_4 h_21 (by exact rfl) ?_ ?_ ?_
 ·rw [I_3_]
  exact ⟨by simp [zac,zab],by simp [zab]⟩
 ·intro s_1 σ_5 a_2 hI hp
  rw [I_3_] at hI
  obtain ⟨q_7,q_6⟩:=hI
  try simp [q_7,q_6]
  rcases zad hp with ⟨h_8,hp⟩|⟨h_8,hp⟩
  ·try simp at h_8
   obtain ⟨e_9,h_10,hp⟩:=zaa hp
   have b_11:=at_lo h_10
   have b_12:=at_hi h_10
   try simp at b_11 b_12
   have c_13:=seg_at' h_10 0 1 (by decide) (ds:=[.sc (.int .i64 e_9)]) rfl
   try simp at c_13
   obtain ⟨y_14,h_15,hp⟩:=zaa hp
   have c_16:=C95_eq h_15
   simp at c_16
   obtain ⟨z_17,h_18,hp⟩:=zaa hp
   have c_19:=zdd (P:=Tryz.prog) (t:=9) h_18
   cases hp
   try simp [q_7,q_6,h_8,b_11,b_12,c_13,c_16,c_19]
   refine zag ?_
   rw [I_3_]
   exact ⟨by simp [zac,zab,q_7,q_6,h_8,b_11,b_12,c_13,c_16,c_19],by simp [zab,q_7,q_6,h_8,b_11,b_12,c_13,c_16,c_19]⟩
  ·try simp at h_8
   cases hp
   try simp [q_7,q_6,h_8]
   refine zak ?_
   rw [X_4_]
   exact ⟨_,rfl,by simp [zac,zab,q_7,q_6,h_8],by simp [zab,q_7,q_6,h_8]⟩
 ·intro out hX
  rw [X_4_] at hX
  obtain ⟨σ_22,rfl,q_24,q_23⟩:=hX
  cases hp
  simp [Goal,FnEnd,q_24,q_23]
theorem pc103:PC Tryz.prog 103 C103:=pc_of (g:=g103) (zaj _ g103_s.2.1 ⟨pc95,trivial⟩) (ent Tryz.func103) fun x y h=>w103 h
end Go.Proofs

