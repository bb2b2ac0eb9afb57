import Derived.Test.YtfeogbfmndbcfaaEvA12
set_option linter.unusedSimpArgs false
set_option linter.unusedVariables false
set_option linter.unnecessarySimpa false
noncomputable section
set_option maxHeartbeats 4000000
set_option maxRecDepth 100000
namespace Go.Proofs
open Go.Ev
def C36:List AV→Option AV:=specP (X:=TStructure × Unit) fun x=>impl_variables x.1
theorem C36_eq {s} {y} (h:impl_variables s=some y):C36 [av .shr s]=some (Res.res y):=zaf (x:=(s,())) h
def g36:Cfg:={ P:=Try.prog,take:=[],keep:=[],gho:=[],ctx:=[] }
@[simp] theorem g36_s:type_of% (cfg_s (g:=g36) rfl):=cfg_s rfl
theorem w36 {s} {y} (hp:impl_variables s=some y):∃ m,callo g36 0 36 [av .shr s] mem0=some (Res.res y,m):=by
 refine st0 [.tmp 2] Try.func36 ?_
 unfold impl_variables at hp
 simp [Try.f36]
 rcases zae hp with ⟨h_1,hp⟩|⟨h_1,hp⟩
 ·try simp at h_1
  cases hp
  simp [Goal,FnEnd,h_1]
 ·try simp at h_1
  obtain ⟨e_2,h_3,hp⟩:=zaa hp
  have b_5:=at_hi h_3
  try simp at b_5
  have c_6:=seg_at' h_3 0 1 (by decide) (ds:=[.sl e_2.vars.length (encL e_2.vars)]) rfl
  try simp at c_6
  cases hp
  simp [Goal,FnEnd,h_1,b_5,c_6]
theorem pc36:PC Try.prog 36 C36:=pc_of (g:=g36) (zag [] rfl trivial) (ent Try.func36) fun x y h=>w36 h

def C64:List AV→Option AV:=specP (X:=Int × Int × Int × Unit) fun x=>impl_within x.1 x.2.1 x.2.2.1
theorem C64_eq {n_ low high} {y} (h:impl_within n_ low high=some y):C64 [av .shr n_,av .shr low,av .shr high]=some (Res.res y):=zaf (x:=(n_,low,high,())) h
def g64:Cfg:={ P:=Try.prog,take:=[],keep:=[],gho:=[],ctx:=[] }
@[simp] theorem g64_s:type_of% (cfg_s (g:=g64) rfl):=cfg_s rfl
theorem w64 {n_ low high} {y} (hp:impl_within n_ low high=some y):∃ m,callo g64 0 64 [av .shr n_,av .shr low,av .shr high] mem0=some (Res.res y,m):=by
 refine st0 [.tmp 6] Try.func64 ?_
 unfold impl_within at hp
 simp [Try.f64]
 rcases zae hp with ⟨h_1,hp⟩|⟨h_1,hp⟩
 ·try simp at h_1
  cases hp
  simp [Goal,FnEnd,h_1]
 ·try simp at h_1
  cases hp
  simp [Goal,FnEnd,h_1]
theorem pc64:PC Try.prog 64 C64:=pc_of (g:=g64) (zag [] rfl trivial) (ent Try.func64) fun x y h=>w64 h

def C68:List AV→Option AV:=specP (X:=Int × Unit) fun x=>impl_IsTruth x.1
theorem C68_eq {a_} {y} (h:impl_IsTruth a_=some y):C68 [av .shr a_]=some (Res.res y):=zaf (x:=(a_,())) h
def g68:Cfg:={ P:=Try.prog,take:=[],keep:=[],gho:=[],ctx:=[(64,C64)] }
@[simp] theorem g68_s:type_of% (cfg_s (g:=g68) rfl):=cfg_s rfl
theorem w68 {a_} {y} (hp:impl_IsTruth a_=some y):∃ m,callo g68 0 68 [av .shr a_] mem0=some (Res.res y,m):=by
 refine st0 [.tmp 2] Try.func68 ?_
 unfold impl_IsTruth at hp
 obtain ⟨y_1,h_2,hp⟩:=zaa hp
 have c_3:=C64_eq h_2
 simp at c_3
 cases hp
 simp [Try.f68,Goal,FnEnd,c_3]
theorem pc68:PC Try.prog 68 C68:=pc_of (g:=g68) (zag _ g68_s.2.1 ⟨pc64,trivial⟩) (ent Try.func68) fun x y h=>w68 h

def C93:List AV→Option AV:=specP (X:=Int × Unit) fun x=>impl_areTruths_1 x.1
def g93:Cfg:={ P:=Try.prog,take:=[],keep:=[],gho:=[],ctx:=[(68,C68)] }
@[simp] theorem g93_s:type_of% (cfg_s (g:=g93) rfl):=cfg_s rfl
theorem w93 {a_} {y} (hp:impl_areTruths_1 a_=some y):∃ m,callo g93 0 93 [av .shr a_] mem0=some (Res.res y,m):=by
 refine st0 [.tmp 2] Try.func93 ?_
 unfold impl_areTruths_1 at hp
 obtain ⟨y_1,h_2,hp⟩:=zaa hp
 have c_3:=C68_eq h_2
 simp at c_3
 cases hp
 simp [Try.f93,Goal,FnEnd,c_3]
theorem pc93:PC Try.prog 93 C93:=pc_of (g:=g93) (zag _ g93_s.2.1 ⟨pc68,trivial⟩) (ent Try.func93) fun x y h=>w93 h

abbrev G111 (g:Cfg):Prop:=Has Try.prog g 111 Try.f111 [] [(2,{ hd:=[0,1,7,8],bx:=[],ex:=[],rt:=[4] })] [] []
theorem wI111 {g:Cfg} (G:G111 g) {d:Nat} {mem:Mem} (hT:Tight d mem)  {s:(List Int)} {f_:(Int→Option (Bool))} {m_0:Md} (hm_0:LentM m_0) {fk_f_:Nat} {caps_f_:List (Key × Nat)} (hl_f_:∀ c∈caps_f_,c.1.1≤d) (hc_f_:Clo g d mem fk_f_ caps_f_ fun x:Int × Unit=>f_ x.1) {y} (hp:slices_IndexFunc_int s f_=some y):callo g d 111 [av m_0 s,.one (.fn fk_f_ caps_f_)] mem=some (Res.res y,mem):=by
 have gP:=G.P;have gt:=G.tk;have gr:=G.ro;have gg:=G.gh
 have k_2:=G.kp (2,{ hd:=[0,1,7,8],bx:=[],ex:=[],rt:=[4] }) (by simp)
 have hT2:memKill (fun k=>decide (d < k.1)) mem=mem:=hT
 refine start_in (Try.f111.body.getD .skip) [.tmp 4] G Try.func111 (by kernel_rfl) (by simp [Try.ntmps111]) rfl ?_
 unfold slices_IndexFunc_int at hp
 simp [Try.f111,gP,gt,gr,gg,hm_0.copy,hm_0.elem]
 obtain ⟨r_18,h_19,hp⟩:=zaa hp
 obtain ⟨I_3,I_3_⟩:=exV fun (s_1:Int) (σ:St)=>(σ.env 0=uL m_0 s∧σ.env 7=uI (s.length:Int)∧σ.env 8=uI s_1)∧σ.env 1=.one (.fn fk_f_ caps_f_)∧σ.mem=mem
 obtain ⟨X_4,X_4_⟩:=exV fun (r_18:(Int) ⊕ (Unit)) (out:Out)=>Sum.elim (fun r_18=>∃ σ:St,out=.ret σ∧σ.env 4=uI r_18∧σ.mem=mem) (fun r_18=>∃ σ:St,out=.exit 0 σ∧σ.mem=mem) r_18
 refine loopP ({ hd:=[0,1,7,8],bx:=[],ex:=[],rt:=[4] }) I_3 X_4 h_19 (by exact k_2) ?_ ?_ ?_
 ·rw [I_3_]
  exact ⟨by simp [zad,zab,gP,gt,gr,gg,hm_0.copy,hm_0.elem],by simp [zad,gP,gt,gr,gg,hm_0.copy,hm_0.elem] <;> first | (intro x x1 x2 hx;have h0:=hl_f_ _ hx;simp at h0;omega) | (intro x hx;have h0:=hl_f_ _ hx;simp at h0;omega),by simp [zab,gP,gt,gr,gg,hm_0.copy,hm_0.elem]⟩
 ·intro s_1 σ_5 a_2 hI hp
  rw [I_3_] at hI
  obtain ⟨q_8,q_6,q_7⟩:=hI
  try simp [gP,gt,gr,gg,hm_0.copy,hm_0.elem,q_8,q_6,q_7]
  rcases zae hp with ⟨h_9,hp⟩|⟨h_9,hp⟩
  ·try simp at h_9
   obtain ⟨e_10,h_11,hp⟩:=zaa hp
   have b_12:=at_lo h_11
   have b_13:=at_hi h_11
   try simp at b_12 b_13
   have c_14:=seg_at' h_11 0 1 (by decide) (ds:=[.sc (.int .i64 e_10)]) rfl
   try simp at c_14
   obtain ⟨y_15,h_16,hp⟩:=zaa hp
   try simp [gP,gt,gr,gg,hm_0.copy,hm_0.elem,q_8,q_6,q_7,h_9,b_12,b_13,c_14]
   refine goal_call ([av .shr e_10] ++ capsAV caps_f_) (Res.res y_15) (by simp [capsAV,gP,gt,gr,gg,hm_0.copy,hm_0.elem,q_8,q_6,q_7,h_9]) (hc_f_ _ _ _ (e_10,()) _ (Nat.le_succ d) (fun k hk=>by first | rfl | rw [q_7]) (by repeat (first | exact tight_mem0 _ | exact hT.up | exact hT | (simp only [q_8,q_6,q_7];done) | refine Tight.upd ?_ (by simp) (by simp) | refine Tight.killB ?_ | refine tight_frz ?_)) ⟨_,_,(.inl rfl),rfl,rfl⟩ h_16) ?_
   try simp [gP,gt,gr,gg,hm_0.copy,hm_0.elem,q_8,q_6,q_7,h_9]
   rcases zae hp with ⟨h_17,hp⟩|⟨h_17,hp⟩
   ·try simp at h_17
    cases hp
    try simp [gP,gt,gr,gg,hm_0.copy,hm_0.elem,q_8,q_6,q_7,h_9,h_17]
    refine goal_outR ?_
    rw [X_4_]
    exact ⟨_,rfl,by simp [zad,zab,gP,gt,gr,gg,hm_0.copy,hm_0.elem,q_8,q_6,q_7,h_9,h_17],by simp [zab,gP,gt,gr,gg,hm_0.copy,hm_0.elem,q_8,q_6,q_7,h_9,h_17]⟩
   ·try simp at h_17
    cases hp
    try simp [gP,gt,gr,gg,hm_0.copy,hm_0.elem,q_8,q_6,q_7,h_9,h_17]
    refine zaj ?_
    rw [I_3_]
    exact ⟨by simp [zad,zab,gP,gt,gr,gg,hm_0.copy,hm_0.elem,q_8,q_6,q_7,h_9,h_17],by simp [zad,gP,gt,gr,gg,hm_0.copy,hm_0.elem,q_8,q_6,q_7,h_9,h_17] <;> first | (intro x x1 x2 hx;have h0:=hl_f_ _ hx;simp at h0;omega) | (intro x hx;have h0:=hl_f_ _ hx;simp at h0;omega),by simp [zab,gP,gt,gr,gg,hm_0.copy,hm_0.elem,q_8,q_6,q_7,h_9,h_17]⟩
  ·try simp at h_9
   cases hp
   try simp [gP,gt,gr,gg,hm_0.copy,hm_0.elem,q_8,q_6,q_7,h_9]
   refine goal_outX ?_
   rw [X_4_]
   exact ⟨_,rfl,by simp [zab,gP,gt,gr,gg,hm_0.copy,hm_0.elem,q_8,q_6,q_7,h_9]⟩
 ·intro out hX
  rw [X_4_] at hX
  rcases r_18 with r_18 | r_18
  ·simp only [Sum.elim_inl,Sum.elim_inr] at hX hp
   obtain ⟨σ_20,rfl,q_22,q_21⟩:=hX
   cases hp
   simp [Goal,FnEndI,memKill_hi,gP,gt,gr,gg,hm_0.copy,hm_0.elem,q_22,q_21,hT2]
  ·simp only [Sum.elim_inl,Sum.elim_inr] at hX hp
   obtain ⟨σ_23,rfl,q_24⟩:=hX
   cases hp
   simp [Goal,FnEndI,memKill_hi,gP,gt,gr,gg,hm_0.copy,hm_0.elem,q_24,hT2]

abbrev G92 (g:Cfg):Prop:=Has Try.prog g 92 Try.f92 [] [] [] []
theorem wI92 {g:Cfg} (G:G92 g) (G_111:G111 g) {d:Nat} {mem:Mem} (hT:Tight d mem)  {s:(List Int)} {f_:(Int→Option (Bool))} {m_0:Md} (hm_0:LentM m_0) {fk_f_:Nat} {caps_f_:List (Key × Nat)} (hl_f_:∀ c∈caps_f_,c.1.1≤d) (hc_f_:Clo g d mem fk_f_ caps_f_ fun x:Int × Unit=>f_ x.1) {y} (hp:slices_ContainsFunc_int s f_=some y):callo g d 92 [av m_0 s,.one (.fn fk_f_ caps_f_)] mem=some (Res.res y,mem):=by
 have gP:=G.P;have gt:=G.tk;have gr:=G.ro;have gg:=G.gh
 have i_111:=G_111.no
 have hT2:memKill (fun k=>decide (d < k.1)) mem=mem:=hT
 refine start_in (Try.f92.body.getD .skip) [.tmp 4] G Try.func92 (by kernel_rfl) (by simp [Try.ntmps92]) rfl ?_
 unfold slices_ContainsFunc_int at hp
 obtain ⟨y_1,h_2,hp⟩:=zaa hp
 simp [Try.f92,gP,gt,gr,gg,i_111,hm_0.copy,hm_0.elem]
 refine goal_call [av m_0 s,.one (.fn fk_f_ caps_f_)] (Res.res y_1) (by simp [gP,gt,gr,gg,i_111,hm_0.copy,hm_0.elem]) (wI111 G_111 (by repeat (first | exact tight_mem0 _ | exact hT.up | exact hT | (simp only [true_and];done) | refine Tight.upd ?_ (by simp) (by simp) | refine Tight.killB ?_ | refine tight_frz ?_)) hm_0 (fun c hc=>Nat.le_succ_of_le (hl_f_ c hc)) (hc_f_.mono (Nat.le_succ d) (fun k hk=>rfl)) h_2) ?_
 cases hp
 simp [Goal,FnEndI,memKill_hi,gP,gt,gr,gg,i_111,hm_0.copy,hm_0.elem,hT2]

def C65:List AV→Option AV:=specP (X:=(List Int) × Unit) fun x=>impl_areTruths x.1
theorem C65_eq {list} {y} (h:impl_areTruths list=some y):C65 [av .shr list]=some (Res.res y):=zaf (x:=(list,())) h
def g65:Cfg:={ P:=Try.prog,take:=[],keep:=[((111,2),{ hd:=[0,1,7,8],bx:=[],ex:=[],rt:=[4] })],gho:=[],ctx:=[(93,C93)] }
@[simp] theorem g65_s:type_of% (cfg_s (g:=g65) rfl):=cfg_s rfl
theorem w65 {list} {y} (hp:impl_areTruths list=some y):∃ m,callo g65 0 65 [av .shr list] mem0=some (Res.res y,m):=by
 have G_92:G92 g65:=⟨rfl,by kernel_rfl,rfl,fun t=>by simp,noAway (fun t=>by simp) (by simp) (fun t=>by simp),by simp [lookN],fun i=>by simp [lookK],by simp [g65,lookK],by simp⟩
 have G_111:G111 g65:=⟨rfl,by kernel_rfl,rfl,fun t=>by simp,noAway (fun t=>by simp) (by simp) (fun t=>by simp),by simp [lookN],fun i=>by simp [lookK],by simp [g65,lookK],by simp⟩
 refine st0 [.tmp 2] Try.func65 ?_
 unfold impl_areTruths at hp
 obtain ⟨y_1,h_2,hp⟩:=zaa hp
 simp [Try.f65]
 refine goal_call [av .shr list,.one (.fn 93 [])] (Res.res y_1) (by simp) (wI92 G_92 G_111 (by repeat (first | exact tight_mem0 _ | exact hT.up | exact hT | (simp only [true_and];done) | refine Tight.upd ?_ (by simp) (by simp) | refine Tight.killB ?_ | refine tight_frz ?_)) (.inl rfl) (by simp) (clo_ctx (by rfl)) h_2) ?_
 cases hp
 simp [Goal,FnEnd]
theorem pc65:PC Try.prog 65 C65:=pc_of (g:=g65) (zag _ g65_s.2.1 ⟨pc93,trivial⟩) (ent Try.func65) fun x y h=>w65 h

abbrev G94 (g:Cfg):Prop:=Has Try.prog g 94 Try.f94 [] [(2,{ hd:=[0,1,7,8],bx:=[],ex:=[],rt:=[4] })] [] []
theorem wI94 {g:Cfg} (G:G94 g) {d:Nat} {mem:Mem} (hT:Tight d mem)  {s:(List TNode)} {f_:(TNode→Option (Bool))} {m_0:Md} (hm_0:LentM m_0) {fk_f_:Nat} {caps_f_:List (Key × Nat)} (hl_f_:∀ c∈caps_f_,c.1.1≤d) (hc_f_:Clo g d mem fk_f_ caps_f_ fun x:TNode × Unit=>f_ x.1) {y} (hp:slices_IndexFunc_Node s f_=some y):callo g d 94 [av m_0 s,.one (.fn fk_f_ caps_f_)] mem=some (Res.res y,mem):=by
 have gP:=G.P;have gt:=G.tk;have gr:=G.ro;have gg:=G.gh
 have k_2:=G.kp (2,{ hd:=[0,1,7,8],bx:=[],ex:=[],rt:=[4] }) (by simp)
 have hT2:memKill (fun k=>decide (d < k.1)) mem=mem:=hT
 refine start_in (Try.f94.body.getD .skip) [.tmp 4] G Try.func94 (by kernel_rfl) (by simp [Try.ntmps94]) rfl ?_
 unfold slices_IndexFunc_Node at hp
 simp [Try.f94,gP,gt,gr,gg,hm_0.copy,hm_0.elem]
 obtain ⟨r_18,h_19,hp⟩:=zaa hp
 obtain ⟨I_3,I_3_⟩:=exV fun (s_1:Int) (σ:St)=>(σ.env 0=uL m_0 s∧σ.env 7=uI (s.length:Int)∧σ.env 8=uI s_1)∧σ.env 1=.one (.fn fk_f_ caps_f_)∧σ.mem=mem
 obtain ⟨X_4,X_4_⟩:=exV fun (r_18:(Int) ⊕ (Unit)) (out:Out)=>Sum.elim (fun r_18=>∃ σ:St,out=.ret σ∧σ.env 4=uI r_18∧σ.mem=mem) (fun r_18=>∃ σ:St,out=.exit 0 σ∧σ.mem=mem) r_18
 refine loopP ({ hd:=[0,1,7,8],bx:=[],ex:=[],rt:=[4] }) I_3 X_4 h_19 (by exact k_2) ?_ ?_ ?_
 ·rw [I_3_]
  exact ⟨by simp [zad,zab,gP,gt,gr,gg,hm_0.copy,hm_0.elem],by simp [zad,gP,gt,gr,gg,hm_0.copy,hm_0.elem] <;> first | (intro x x1 x2 hx;have h0:=hl_f_ _ hx;simp at h0;omega) | (intro x hx;have h0:=hl_f_ _ hx;simp at h0;omega),by simp [zab,gP,gt,gr,gg,hm_0.copy,hm_0.elem]⟩
 ·intro s_1 σ_5 a_2 hI hp
  rw [I_3_] at hI
  obtain ⟨q_8,q_6,q_7⟩:=hI
  try simp [gP,gt,gr,gg,hm_0.copy,hm_0.elem,q_8,q_6,q_7]
  rcases zae hp with ⟨h_9,hp⟩|⟨h_9,hp⟩
  ·try simp at h_9
   obtain ⟨e_10,h_11,hp⟩:=zaa hp
   have b_12:=at_lo h_11
   have b_13:=at_hi h_11
   try simp at b_12 b_13
   have c_14:=seg_at' h_11 0 4 (by decide) (ds:=[.sl e_10.vars.length (encL e_10.vars),.sl e_10.reach.length (encL e_10.reach),.sc (.int .i64 e_10.shared),.sc (.int .i64 e_10.many)]) rfl
   try simp at c_14
   obtain ⟨y_15,h_16,hp⟩:=zaa hp
   try simp [gP,gt,gr,gg,hm_0.copy,hm_0.elem,q_8,q_6,q_7,h_9,b_12,b_13,c_14]
   refine goal_call ([av m_0 e_10] ++ capsAV caps_f_) (Res.res y_15) (by simp [capsAV,gP,gt,gr,gg,hm_0.copy,hm_0.elem,q_8,q_6,q_7,h_9]) (hc_f_ _ _ _ (e_10,()) _ (Nat.le_succ d) (fun k hk=>by first | rfl | rw [q_7]) (by repeat (first | exact tight_mem0 _ | exact hT.up | exact hT | (simp only [q_8,q_6,q_7];done) | refine Tight.upd ?_ (by simp) (by simp) | refine Tight.killB ?_ | refine tight_frz ?_)) ⟨_,_,hm_0,rfl,rfl⟩ h_16) ?_
   try simp [gP,gt,gr,gg,hm_0.copy,hm_0.elem,q_8,q_6,q_7,h_9]
   rcases zae hp with ⟨h_17,hp⟩|⟨h_17,hp⟩
   ·try simp at h_17
    cases hp
    try simp [gP,gt,gr,gg,hm_0.copy,hm_0.elem,q_8,q_6,q_7,h_9,h_17]
    refine goal_outR ?_
    rw [X_4_]
    exact ⟨_,rfl,by simp [zad,zab,gP,gt,gr,gg,hm_0.copy,hm_0.elem,q_8,q_6,q_7,h_9,h_17],by simp [zab,gP,gt,gr,gg,hm_0.copy,hm_0.elem,q_8,q_6,q_7,h_9,h_17]⟩
   ·try simp at h_17
    cases hp
    try simp [gP,gt,gr,gg,hm_0.copy,hm_0.elem,q_8,q_6,q_7,h_9,h_17]
    refine zaj ?_
    rw [I_3_]
    exact ⟨by simp [zad,zab,gP,gt,gr,gg,hm_0.copy,hm_0.elem,q_8,q_6,q_7,h_9,h_17],by simp [zad,gP,gt,gr,gg,hm_0.copy,hm_0.elem,q_8,q_6,q_7,h_9,h_17] <;> first | (intro x x1 x2 hx;have h0:=hl_f_ _ hx;simp at h0;omega) | (intro x hx;have h0:=hl_f_ _ hx;simp at h0;omega),by simp [zab,gP,gt,gr,gg,hm_0.copy,hm_0.elem,q_8,q_6,q_7,h_9,h_17]⟩
  ·try simp at h_9
   cases hp
   try simp [gP,gt,gr,gg,hm_0.copy,hm_0.elem,q_8,q_6,q_7,h_9]
   refine goal_outX ?_
   rw [X_4_]
   exact ⟨_,rfl,by simp [zab,gP,gt,gr,gg,hm_0.copy,hm_0.elem,q_8,q_6,q_7,h_9]⟩
 ·intro out hX
  rw [X_4_] at hX
  rcases r_18 with r_18 | r_18
  ·simp only [Sum.elim_inl,Sum.elim_inr] at hX hp
   obtain ⟨σ_20,rfl,q_22,q_21⟩:=hX
   cases hp
   simp [Goal,FnEndI,memKill_hi,gP,gt,gr,gg,hm_0.copy,hm_0.elem,q_22,q_21,hT2]
  ·simp only [Sum.elim_inl,Sum.elim_inr] at hX hp
   obtain ⟨σ_23,rfl,q_24⟩:=hX
   cases hp
   simp [Goal,FnEndI,memKill_hi,gP,gt,gr,gg,hm_0.copy,hm_0.elem,q_24,hT2]

abbrev G66 (g:Cfg):Prop:=Has Try.prog g 66 Try.f66 [] [] [] []
theorem wI66 {g:Cfg} (G:G66 g) (G_94:G94 g) {d:Nat} {mem:Mem} (hT:Tight d mem)  {s:(List TNode)} {f_:(TNode→Option (Bool))} {m_0:Md} (hm_0:LentM m_0) {fk_f_:Nat} {caps_f_:List (Key × Nat)} (hl_f_:∀ c∈caps_f_,c.1.1≤d) (hc_f_:Clo g d mem fk_f_ caps_f_ fun x:TNode × Unit=>f_ x.1) {y} (hp:slices_ContainsFunc_Node s f_=some y):callo g d 66 [av m_0 s,.one (.fn fk_f_ caps_f_)] mem=some (Res.res y,mem):=by
 have gP:=G.P;have gt:=G.tk;have gr:=G.ro;have gg:=G.gh
 have i_94:=G_94.no
 have hT2:memKill (fun k=>decide (d < k.1)) mem=mem:=hT
 refine start_in (Try.f66.body.getD .skip) [.tmp 4] G Try.func66 (by kernel_rfl) (by simp [Try.ntmps66]) rfl ?_
 unfold slices_ContainsFunc_Node at hp
 obtain ⟨y_1,h_2,hp⟩:=zaa hp
 simp [Try.f66,gP,gt,gr,gg,i_94,hm_0.copy,hm_0.elem]
 refine goal_call [av m_0 s,.one (.fn fk_f_ caps_f_)] (Res.res y_1) (by simp [gP,gt,gr,gg,i_94,hm_0.copy,hm_0.elem]) (wI94 G_94 (by repeat (first | exact tight_mem0 _ | exact hT.up | exact hT | (simp only [true_and];done) | refine Tight.upd ?_ (by simp) (by simp) | refine Tight.killB ?_ | refine tight_frz ?_)) hm_0 (fun c hc=>Nat.le_succ_of_le (hl_f_ c hc)) (hc_f_.mono (Nat.le_succ d) (fun k hk=>rfl)) h_2) ?_
 cases hp
 simp [Goal,FnEndI,memKill_hi,gP,gt,gr,gg,i_94,hm_0.copy,hm_0.elem,hT2]

abbrev G67 (g:Cfg):Prop:=Has Try.prog g 67 Try.f67 [] [] [(65,C65),(68,C68)] []
theorem wI67 {g:Cfg} (G:G67 g) {d:Nat} {mem:Mem} (hT:Tight d mem) {K_1:Key} {x_:TNode} {c0:Int} {m_0:Md} (hm_0:LentM m_0) (hk_1:K_1.1≤d) (hb_1:mem K_1=some [cI c0]) {y} (hp:impl_IsStructure_1 x_ c0=some y):callo g d 67 [av m_0 x_,.one (.ptr K_1 0)] mem=some (Res.res y,mem):=by
 have gP:=G.P;have gt:=G.tk;have gr:=G.ro;have gg:=G.gh
 have c_65:=G.cs (65,C65) (by simp)
 have c_68:=G.cs (68,C68) (by simp)
 have hT2:memKill (fun k=>decide (d < k.1)) mem=mem:=hT
 have hm0:∀ t,mem (d+1,t)=none:=fun t=>hT.none (by simp)
 have nk_1:∀ t,(K_1=(d+1,t))=False:=fun t=>by simp;intro h;rw [h] at hk_1;simp at hk_1;omega
 refine start_in (Try.f67.body.getD .skip) [.tmp 3] G Try.func67 (by kernel_rfl) (by simp [Try.ntmps67]) rfl ?_
 unfold impl_IsStructure_1 at hp
 simp [Try.f67,gP,gt,gr,gg,hm0,hm_0.copy,hm_0.elem,hb_1,nk_1]
 rcases zae hp with ⟨h_1,hp⟩|⟨h_1,hp⟩
 ·try simp at h_1
  cases hp
  simp [Goal,FnEndI,memKill_hi,gP,gt,gr,gg,hm0,hm_0.copy,hm_0.elem,hb_1,nk_1,h_1,hT2]
 ·try simp at h_1
  try simp [gP,gt,gr,gg,hm0,hm_0.copy,hm_0.elem,hb_1,nk_1,h_1]
  rcases zae hp with ⟨h_2,hp⟩|⟨h_2,hp⟩
  ·try simp at h_2
   cases hp
   simp [Goal,FnEndI,memKill_hi,gP,gt,gr,gg,hm0,hm_0.copy,hm_0.elem,hb_1,nk_1,h_1,h_2,hT2]
  ·try simp at h_2
   obtain ⟨y_3,h_4,hp⟩:=zaa hp
   have c_5:=C65_eq h_4
   simp at c_5
   try simp [gP,gt,gr,gg,hm0,c_65,hm_0.copy,hm_0.elem,hb_1,nk_1,h_1,h_2,c_5]
   rcases zae hp with ⟨h_6,hp⟩|⟨h_6,hp⟩
   ·try simp at h_6
    obtain ⟨y_7,h_8,hp⟩:=zaa hp
    have c_9:=C65_eq h_8
    simp at c_9
    try simp [gP,gt,gr,gg,hm0,c_65,hm_0.copy,hm_0.elem,hb_1,nk_1,h_1,h_2,h_6,c_9]
    rcases zae hp with ⟨h_10,hp⟩|⟨h_10,hp⟩
    ·try simp at h_10
     obtain ⟨y_11,h_12,hp⟩:=zaa hp
     have c_13:=C68_eq h_12
     simp at c_13
     try simp [gP,gt,gr,gg,hm0,c_65,c_68,hm_0.copy,hm_0.elem,hb_1,nk_1,h_1,h_2,h_6,h_10,c_13]
     rcases zae hp with ⟨h_14,hp⟩|⟨h_14,hp⟩
     ·try simp at h_14
      try simp [gP,gt,gr,gg,hm0,c_65,c_68,hm_0.copy,hm_0.elem,hb_1,nk_1,h_1,h_2,h_6,h_10,h_14]
      rcases zae hp with ⟨h_15,hp⟩|⟨h_15,hp⟩
      ·try simp at h_15
       cases hp
       simp [Goal,FnEndI,memKill_hi,gP,gt,gr,gg,hm0,c_65,c_68,hm_0.copy,hm_0.elem,hb_1,nk_1,h_1,h_2,h_6,h_10,h_14,h_15,hT2]
      ·try simp at h_15
       cases hp
       simp [Goal,FnEndI,memKill_hi,gP,gt,gr,gg,hm0,c_65,c_68,hm_0.copy,hm_0.elem,hb_1,nk_1,h_1,h_2,h_6,h_10,h_14,h_15,hT2]
     ·try simp at h_14
      cases hp
      simp [Goal,FnEndI,memKill_hi,gP,gt,gr,gg,hm0,c_65,c_68,hm_0.copy,hm_0.elem,hb_1,nk_1,h_1,h_2,h_6,h_10,h_14,hT2]
    ·try simp at h_10
     cases hp
     simp [Goal,FnEndI,memKill_hi,gP,gt,gr,gg,hm0,c_65,c_68,hm_0.copy,hm_0.elem,hb_1,nk_1,h_1,h_2,h_6,h_10,hT2]
   ·try simp at h_6
    cases hp
    simp [Goal,FnEndI,memKill_hi,gP,gt,gr,gg,hm0,c_65,c_68,hm_0.copy,hm_0.elem,hb_1,nk_1,h_1,h_2,h_6,hT2]

def C35:List AV→Option AV:=specP (X:=Int × TStructure × Unit) fun x=>impl_IsStructure x.1 x.2.1
theorem C35_eq {vars s} {y} (h:impl_IsStructure vars s=some y):C35 [av .shr vars,av .shr s]=some (Res.res y):=zaf (x:=(vars,s,())) h
def g35:Cfg:={ P:=Try.prog,take:=[],keep:=[((94,2),{ hd:=[0,1,7,8],bx:=[],ex:=[],rt:=[4] })],gho:=[],ctx:=[(64,C64),(65,C65),(68,C68)] }
@[simp] theorem g35_s:type_of% (cfg_s (g:=g35) rfl):=cfg_s rfl
theorem w35 {vars s} {y} (hp:impl_IsStructure vars s=some y):∃ m,callo g35 0 35 [av .shr vars,av .shr s] mem0=some (Res.res y,m):=by
 have G_66:G66 g35:=⟨rfl,by kernel_rfl,rfl,fun t=>by simp,noAway (fun t=>by simp) (by simp) (fun t=>by simp),by simp [lookN],fun i=>by simp [lookK],by simp [g35,lookK],by simp⟩
 have G_94:G94 g35:=⟨rfl,by kernel_rfl,rfl,fun t=>by simp,noAway (fun t=>by simp) (by simp) (fun t=>by simp),by simp [lookN],fun i=>by simp [lookK],by simp [g35,lookK],by simp⟩
 have G_67:G67 g35:=⟨rfl,by kernel_rfl,rfl,fun t=>by simp,noAway (fun t=>by simp) (by simp) (fun t=>by simp),by simp [lookN],fun i=>by simp [lookK],by simp [g35,lookK],by simp⟩
 refine st0 [.tmp 4] Try.func35 ?_
 unfold impl_IsStructure at hp
 obtain ⟨y_1,h_2,hp⟩:=zaa hp
 have c_3:=C64_eq h_2
 simp at c_3
 simp [Try.f35,c_3]
 rcases zae hp with ⟨h_4,hp⟩|⟨h_4,hp⟩
 ·try simp at h_4
  try simp [h_4]
  rcases zae hp with ⟨h_5,hp⟩|⟨h_5,hp⟩
  ·try simp at h_5
   cases hp
   simp [Goal,FnEnd,h_4,h_5]
  ·try simp at h_5
   try simp [h_4,h_5]
   rcases zae hp with ⟨h_6,hp⟩|⟨h_6,hp⟩
   ·try simp at h_6
    cases hp
    simp [Goal,FnEnd,h_4,h_5,h_6]
   ·try simp at h_6
    obtain ⟨y_7,h_8,hp⟩:=zaa hp
    have c_9:=C65_eq h_8
    simp at c_9
    try simp [h_4,h_5,h_6,c_9]
    rcases zae hp with ⟨h_10,hp⟩|⟨h_10,hp⟩
    ·try simp at h_10
     obtain ⟨y_11,h_12,hp⟩:=zaa hp
     try simp [h_4,h_5,h_6,h_10]
     refine goal_call [av .shr s.nodes,.one (.fn 67 [((1,2),0)])] (Res.res y_11) (by simp [h_4,h_5,h_6,h_10]) (wI66 G_66 G_94 (by repeat (first | exact tight_mem0 _ | exact hT.up | exact hT | (simp only [true_and];done) | refine Tight.upd ?_ (by simp) (by simp) | refine Tight.killB ?_ | refine tight_frz ?_)) (.inl rfl) (by simp) (clo1 (p:=fun x0=>impl_IsStructure_1 x0 vars) fun d2 mem2 m0 x0 r2 hd2 ha2 hT2 hm0 hr2=>wI67 G_67 hT2 hm0 (show 1≤d2 from hd2) ((ha2 _ (Nat.le_refl _)).trans (by simp [h_4,h_5,h_6,h_10])) hr2) h_12) ?_
     cases hp
     simp [Goal,FnEnd,h_4,h_5,h_6,h_10]
    ·try simp at h_10
     cases hp
     simp [Goal,FnEnd,h_4,h_5,h_6,h_10]
 ·try simp at h_4
  cases hp
  simp [Goal,FnEnd,h_4]
theorem pc35:PC Try.prog 35 C35:=pc_of (g:=g35) (zag _ g35_s.2.1 ⟨pc64,pc65,pc68,trivial⟩) (ent Try.func35) fun x y h=>w35 h

def C41:List AV→Option AV:=specP (X:=TNode × Unit) fun x=>impl_Node_own x.1
theorem C41_eq {x_} {y} (h:impl_Node_own x_=some y):C41 [av .shr x_]=some (Res.res y):=zaf (x:=(x_,())) h
def g41:Cfg:={ P:=Try.prog,take:=[],keep:=[],gho:=[],ctx:=[(69,C69)] }
@[simp] theorem g41_s:type_of% (cfg_s (g:=g41) rfl):=cfg_s rfl
theorem w41 {x_} {y} (hp:impl_Node_own x_=some y):∃ m,callo g41 0 41 [av .shr x_] mem0=some (Res.res y,m):=by
 refine st0 [.cell 2 56] Try.func41 ?_
 unfold impl_Node_own at hp
 obtain ⟨y_1,h_2,hp⟩:=zaa hp
 have c_3:=C69_eq h_2
 simp at c_3
 obtain ⟨y_4,h_5,hp⟩:=zaa hp
 have c_6:=C69_eq h_5
 simp at c_6
 cases hp
 simp [Try.f41,Goal,FnEnd,retR,rsrc,RSrc.val,nodupR,nodup,tupPart,c_3,c_6]
theorem pc41:PC Try.prog 41 C41:=pc_of (g:=g41) (zag _ g41_s.2.1 ⟨pc69,trivial⟩) (ent Try.func41) fun x y h=>w41 h

def C37:List AV→Option AV:=specP (X:=TStructure × Unit) fun x=>impl_Structure_own x.1
theorem C37_eq {s} {y} (h:impl_Structure_own s=some y):C37 [av .shr s]=some (Res.res y):=zaf (x:=(s,())) h
def g37:Cfg:={ P:=Try.prog,take:=[(37,18),(37,25)],keep:=[((37,3),{ hd:=[2,3,11,12,13],bx:=[5],ex:=[2,3],rt:=[2] })],gho:=[],ctx:=[(41,C41),(69,C69)] }
@[simp] theorem g37_s:type_of% (cfg_s (g:=g37) rfl):=cfg_s rfl
theorem w37 {s} {y} (hp:impl_Structure_own s=some y):∃ m,callo g37 0 37 [av .shr s] mem0=some (Res.res y,m):=by
 refine st0 [.cell 2 30] Try.func37 ?_
 unfold impl_Structure_own at hp
 obtain ⟨y_1,h_2,hp⟩:=zaa hp
 have c_3:=C69_eq h_2
 simp at c_3
 simp [Try.f37,c_3]
 obtain ⟨r_23,h_24,hp⟩:=zaa hp
 obtain ⟨I_6,I_6_⟩:=exV fun (s_4:Int × (List TNode)) (σ:St)=>(σ.env 2=uP (1,2)∧σ.env 3=uP (1,3)∧σ.env 11=uL .shr s.nodes∧σ.env 12=uI (s.nodes.length:Int)∧σ.env 13=uI s_4.1∧σ.mem (1,1)=some [cL .shr s.nodes,cL .shr s.next]∧σ.mem (1,2)=some [.l .own 0 [],.l .own 0 []]∧σ.mem (1,3)=some [cL .own s_4.2,cL .own y_1])∧NoBox [(1,1),(1,2),(1,3)] σ.mem
 obtain ⟨X_7,X_7_⟩:=exV fun (r_23:(List TNode)) (out:Out)=>∃ σ:St,out=.exit 0 σ∧(σ.env 2=uP (1,2)∧σ.env 3=uP (1,3)∧σ.mem (1,1)=some [cL .shr s.nodes,cL .shr s.next]∧σ.mem (1,2)=some [.l .own 0 [],.l .own 0 []]∧σ.mem (1,3)=some [cL .own r_23,cL .own y_1])∧NoBox [(1,1),(1,2),(1,3)] σ.mem
 refine loopP ({ hd:=[2,3,11,12,13],bx:=[5],ex:=[2,3],rt:=[2] }) I_6 X_7 h_24 (by exact rfl) ?_ ?_ ?_
 ·rw [I_6_]
  exact ⟨by simp [zad,zab],NoBox.restrict (by intro k hk hb;simp at hk hb;simp [hk,hb])⟩
 ·intro s_4 σ_8 a_5 hI hp
  rw [I_6_] at hI
  obtain ⟨q_10,hn_9⟩:=hI
  try simp [q_10]
  rcases zae hp with ⟨h_11,hp⟩|⟨h_11,hp⟩
  ·try simp at h_11
   obtain ⟨e_12,h_13,hp⟩:=zaa hp
   have b_14:=at_lo h_13
   have b_15:=at_hi h_13
   try simp at b_14 b_15
   have c_16:=seg_at' h_13 0 4 (by decide) (ds:=[.sl e_12.vars.length (encL e_12.vars),.sl e_12.reach.length (encL e_12.reach),.sc (.int .i64 e_12.shared),.sc (.int .i64 e_12.many)]) rfl
   try simp at c_16
   have n_17:=hn_9 (1,5) (by simp)
   obtain ⟨y_18,h_19,hp⟩:=zaa hp
   have c_20:=C41_eq h_19
   simp at c_20
   obtain ⟨_,h_21,hp⟩:=zaa hp
   have b_22:=room_ok h_21
   try simp at b_22
   cases hp
   try simp [q_10,h_11,b_14,b_15,c_16,n_17,c_20,b_22]
   refine zaj ?_
   rw [I_6_]
   exact ⟨by simp [zad,zab,q_10,h_11,b_14,b_15,c_16,n_17,c_20,b_22],NoBox.restrict (by intro k hk hb;simp at hk hb;simp [hk,hb,q_10,h_11,b_14,b_15,c_16,n_17,c_20,b_22,hn_9 k (by simp [hk,hb])])⟩
  ·try simp at h_11
   cases hp
   try simp [q_10,h_11]
   refine goal_outX ?_
   rw [X_7_]
   exact ⟨_,rfl,by simp [zad,zab,q_10,h_11],NoBox.restrict (by intro k hk hb;simp at hk hb;simp [hk,hb,q_10,h_11,hn_9 k (by simp [hk,hb])])⟩
 ·intro out hX
  rw [X_7_] at hX
  obtain ⟨σ_25,rfl,q_27,hn_26⟩:=hX
  cases hp
  simp [Goal,FnEnd,retR,rsrc,RSrc.val,nodupR,nodup,tupPart,q_27]
theorem pc37:PC Try.prog 37 C37:=pc_of (g:=g37) (zag _ g37_s.2.1 ⟨pc41,pc69,trivial⟩) (ent Try.func37) fun x y h=>w37 h

def C70:List AV→Option AV:=specP (X:=TStructure × Int × Unit) fun x=>impl_Structure_isNode x.1 x.2.1
theorem C70_eq {s i} {y} (h:impl_Structure_isNode s i=some y):C70 [av .shr s,av .shr i]=some (Res.res y):=zaf (x:=(s,i,())) h
def g70:Cfg:={ P:=Try.prog,take:=[],keep:=[],gho:=[],ctx:=[(64,C64)] }
@[simp] theorem g70_s:type_of% (cfg_s (g:=g70) rfl):=cfg_s rfl
theorem w70 {s i} {y} (hp:impl_Structure_isNode s i=some y):∃ m,callo g70 0 70 [av .shr s,av .shr i] mem0=some (Res.res y,m):=by
 refine st0 [.tmp 4] Try.func70 ?_
 unfold impl_Structure_isNode at hp
 obtain ⟨y_1,h_2,hp⟩:=zaa hp
 have c_3:=C64_eq h_2
 simp at c_3
 cases hp
 simp [Try.f70,Goal,FnEnd,c_3]
theorem pc70:PC Try.prog 70 C70:=pc_of (g:=g70) (zag _ g70_s.2.1 ⟨pc64,trivial⟩) (ent Try.func70) fun x y h=>w70 h

def C71:List AV→Option AV:=specP (X:=TStructure × Unit) fun x=>impl_CountPredicates x.1
theorem C71_eq {s} {y} (h:impl_CountPredicates s=some y):C71 [av .shr s]=some (Res.res y):=zaf (x:=(s,())) h
def g71:Cfg:={ P:=Try.prog,take:=[],keep:=[],gho:=[],ctx:=[(36,C36)] }
@[simp] theorem g71_s:type_of% (cfg_s (g:=g71) rfl):=cfg_s rfl
theorem w71 {s} {y} (hp:impl_CountPredicates s=some y):∃ m,callo g71 0 71 [av .shr s] mem0=some (Res.res y,m):=by
 refine st0 [.tmp 2] Try.func71 ?_
 unfold impl_CountPredicates at hp
 simp [Try.f71]
 rcases zae hp with ⟨h_1,hp⟩|⟨h_1,hp⟩
 ·try simp at h_1
  cases hp
  simp [Goal,FnEnd,h_1]
 ·try simp at h_1
  obtain ⟨y_2,h_3,hp⟩:=zaa hp
  have c_4:=C36_eq h_3
  simp at c_4
  cases hp
  simp [Goal,FnEnd,h_1,c_4]
theorem pc71:PC Try.prog 71 C71:=pc_of (g:=g71) (zag _ g71_s.2.1 ⟨pc36,trivial⟩) (ent Try.func71) fun x y h=>w71 h

def C73:List AV→Option AV:=specP (X:=TStructure × Int × Int × Unit) fun x=>impl_PredicateAt x.1 x.2.1 x.2.2.1
theorem C73_eq {s k_ i} {y} (h:impl_PredicateAt s k_ i=some y):C73 [av .shr s,av .shr k_,av .shr i]=some (Res.res y):=zaf (x:=(s,k_,i,())) h
def g73:Cfg:={ P:=Try.prog,take:=[],keep:=[],gho:=[],ctx:=[(36,C36),(64,C64),(70,C70)] }
@[simp] theorem g73_s:type_of% (cfg_s (g:=g73) rfl):=cfg_s rfl
theorem w73 {s k_ i} {y} (hp:impl_PredicateAt s k_ i=some y):∃ m,callo g73 0 73 [av .shr s,av .shr k_,av .shr i] mem0=some (Res.res y,m):=by
 refine st0 [.tmp 6] Try.func73 ?_
 unfold impl_PredicateAt at hp
 obtain ⟨y_1,h_2,hp⟩:=zaa hp
 have c_3:=C36_eq h_2
 simp at c_3
 obtain ⟨y_4,h_5,hp⟩:=zaa hp
 have c_6:=C70_eq h_5
 simp at c_6
 simp [Try.f73,c_3,c_6]
 rcases zae hp with ⟨h_7,hp⟩|⟨h_7,hp⟩
 ·try simp at h_7
  obtain ⟨e_8,h_9,hp⟩:=zaa hp
  have b_10:=at_lo h_9
  have b_11:=at_hi h_9
  try simp at b_10 b_11
  have c_12:=seg_at' h_9 0 4 (by decide) (ds:=[.sl e_8.vars.length (encL e_8.vars),.sl e_8.reach.length (encL e_8.reach),.sc (.int .i64 e_8.shared),.sc (.int .i64 e_8.many)]) rfl
  try simp at c_12
  try simp [h_7,b_10,b_11,c_12]
  rcases zae hp with ⟨h_13,hp⟩|⟨h_13,hp⟩
  ·try simp at h_13
   cases hp
   simp [Goal,FnEnd,h_7,h_13]
  ·try simp at h_13
   obtain ⟨y_14,h_15,hp⟩:=zaa hp
   have c_16:=C64_eq h_15
   simp at c_16
   try simp [h_7,h_13,c_16]
   rcases zae hp with ⟨h_17,hp⟩|⟨h_17,hp⟩
   ·try simp at h_17
    obtain ⟨y_18,h_19,hp⟩:=zaa hp
    have c_20:=C64_eq h_19
    simp at c_20
    try simp [h_7,h_13,h_17,c_20]
    rcases zae hp with ⟨h_21,hp⟩|⟨h_21,hp⟩
    ·try simp at h_21
     obtain ⟨e_22,h_23,hp⟩:=zaa hp
     have b_24:=at_lo h_23
     have b_25:=at_hi h_23
     try simp at b_24 b_25
     have c_26:=seg_at' h_23 0 1 (by decide) (ds:=[.sc (.int .i64 e_22)]) rfl
     try simp at c_26
     cases hp
     simp [Goal,FnEnd,h_7,h_13,h_17,h_21,b_24,b_25,c_26]
    ·try simp at h_21
     cases hp
     simp [Goal,FnEnd,h_7,h_13,h_17,h_21]
   ·try simp at h_17
    obtain ⟨y_27,h_28,hp⟩:=zaa hp
    have c_29:=C64_eq h_28
    simp at c_29
    try simp [h_7,h_13,h_17,c_29]
    rcases zae hp with ⟨h_30,hp⟩|⟨h_30,hp⟩
    ·try simp at h_30
     obtain ⟨y_31,h_32,hp⟩:=zaa hp
     have c_33:=C64_eq h_32
     simp at c_33
     try simp [h_7,h_13,h_17,h_30,c_33]
     rcases zae hp with ⟨h_34,hp⟩|⟨h_34,hp⟩
     ·try simp at h_34
      obtain ⟨e_35,h_36,hp⟩:=zaa hp
      have b_37:=at_lo h_36
      have b_38:=at_hi h_36
      try simp at b_37 b_38
      have c_39:=seg_at' h_36 0 1 (by decide) (ds:=[.sc (.int .i64 e_35)]) rfl
      try simp at c_39
      cases hp
      simp [Goal,FnEnd,h_7,h_13,h_17,h_30,h_34,b_37,b_38,c_39]
     ·try simp at h_34
      cases hp
      simp [Goal,FnEnd,h_7,h_13,h_17,h_30,h_34]
    ·try simp at h_30
     obtain ⟨y_40,h_41,hp⟩:=zaa hp
     have c_42:=C64_eq h_41
     simp at c_42
     try simp [h_7,h_13,h_17,h_30,c_42]
     rcases zae hp with ⟨h_43,hp⟩|⟨h_43,hp⟩
     ·try simp at h_43
      obtain ⟨e_44,h_45,hp⟩:=zaa hp
      have b_46:=at_lo h_45
      have b_47:=at_hi h_45
      try simp at b_46 b_47
      have c_48:=seg_at' h_45 0 1 (by decide) (ds:=[.sc (.int .i64 e_44)]) rfl
      try simp at c_48
      cases hp
      simp [Goal,FnEnd,h_7,h_13,h_17,h_30,h_43,b_46,b_47,c_48]
     ·try simp at h_43
      cases hp
      simp [Goal,FnEnd,h_7,h_13,h_17,h_30,h_43]
 ·try simp at h_7
  cases hp
  simp [Goal,FnEnd,h_7]
theorem pc73:PC Try.prog 73 C73:=pc_of (g:=g73) (zag _ g73_s.2.1 ⟨pc36,pc64,pc70,trivial⟩) (ent Try.func73) fun x y h=>w73 h

def C72:List AV→Option AV:=specP (X:=Int × Unit) fun x=>impl_TruthText x.1
theorem C72_eq {a_} {y} (h:impl_TruthText a_=some y):C72 [av .shr a_]=some (Res.res y):=zaf (x:=(a_,())) h
def g72:Cfg:={ P:=Try.prog,take:=[],keep:=[],gho:=[],ctx:=[(68,C68)] }
@[simp] theorem g72_s:type_of% (cfg_s (g:=g72) rfl):=cfg_s rfl
theorem w72 {a_} {y} (hp:impl_TruthText a_=some y):∃ m,callo g72 0 72 [av .shr a_] mem0=some (Res.res y,m):=by
 refine st0 [.tmp 2] Try.func72 ?_
 unfold impl_TruthText at hp
 obtain ⟨y_1,h_2,hp⟩:=zaa hp
 have c_3:=C68_eq h_2
 simp at c_3
 simp [Try.f72,c_3]
 rcases zae hp with ⟨h_4,hp⟩|⟨h_4,hp⟩
 ·try simp at h_4
  obtain ⟨z_5,h_6,hp⟩:=zaa hp
  have c_7:=sl_str Try.underlying9 h_6
  cases hp
  simp [Goal,FnEnd,h_4,c_7]
 ·try simp at h_4
  cases hp
  simp [Goal,FnEnd,h_4]
theorem pc72:PC Try.prog 72 C72:=pc_of (g:=g72) (zag _ g72_s.2.1 ⟨pc68,trivial⟩) (ent Try.func72) fun x y h=>w72 h

def C38:List AV→Option AV:=specP (X:=TStructure × Int × Unit) fun x=>impl_NodeName x.1 x.2.1
theorem C38_eq {s i} {y} (h:impl_NodeName s i=some y):C38 [av .shr s,av .shr i]=some (Res.res y):=zaf (x:=(s,i,())) h
def g38:Cfg:={ P:=Try.prog,take:=[],keep:=[((38,5),{ hd:=[1,2,5,12,13],bx:=[],ex:=[5],rt:=[4] })],gho:=[],ctx:=[(70,C70),(71,C71),(72,C72),(73,C73)] }
@[simp] theorem g38_s:type_of% (cfg_s (g:=g38) rfl):=cfg_s rfl
theorem w38 {s i} {y} (hp:impl_NodeName s i=some y):∃ m,callo g38 0 38 [av .shr s,av .shr i] mem0=some (Res.res y,m):=by
 refine st0 [.tmp 4] Try.func38 ?_
 unfold impl_NodeName at hp
 obtain ⟨y_1,h_2,hp⟩:=zaa hp
 have c_3:=C70_eq h_2
 simp at c_3
 simp [Try.f38,c_3]
 rcases zae hp with ⟨h_4,hp⟩|⟨h_4,hp⟩
 ·try simp at h_4
  obtain ⟨y_5,h_6,hp⟩:=zaa hp
  have c_7:=C71_eq h_6
  simp at c_7
  try simp [h_4,c_7]
  obtain ⟨r_25,h_26,hp⟩:=zaa hp
  obtain ⟨I_10,I_10_⟩:=exV fun (s_8:ByteArray × Int) (σ:St)=>(σ.env 1=uI i∧σ.env 2=uP (1,2)∧σ.env 5=.one (.s (.string s_8.1))∧σ.env 12=uI y_5∧σ.env 13=uI s_8.2∧σ.mem (1,2)=some [cL .shr s.nodes,cL .shr s.next])∧NoBox [(1,2)] σ.mem
  obtain ⟨X_11,X_11_⟩:=exV fun (r_25:ByteArray) (out:Out)=>∃ σ:St,out=.exit 0 σ∧(σ.env 5=.one (.s (.string r_25))∧σ.mem (1,2)=some [cL .shr s.nodes,cL .shr s.next])∧NoBox [(1,2)] σ.mem
  refine loopP ({ hd:=[1,2,5,12,13],bx:=[],ex:=[5],rt:=[4] }) I_10 X_11 h_26 (by exact rfl) ?_ ?_ ?_
  ·rw [I_10_]
   exact ⟨by simp [zad,zab,h_4],NoBox.restrict (by intro k hk hb;simp at hk hb;simp [hk,hb,h_4])⟩
  ·intro s_8 σ_12 a_9 hI hp
   rw [I_10_] at hI
   obtain ⟨q_14,hn_13⟩:=hI
   try simp [h_4,q_14]
   rcases zae hp with ⟨h_15,hp⟩|⟨h_15,hp⟩
   ·try simp at h_15
    obtain ⟨y_16,h_17,hp⟩:=zaa hp
    have c_18:=C73_eq h_17
    simp at c_18
    obtain ⟨y_19,h_20,hp⟩:=zaa hp
    have c_21:=C72_eq h_20
    simp at c_21
    obtain ⟨z_22,h_23,hp⟩:=zaa hp
    have c_24:=cat_str (P:=Try.prog) (t:=9) h_23
    cases hp
    try simp [h_4,q_14,h_15,c_18,c_21,c_24]
    refine zaj ?_
    rw [I_10_]
    exact ⟨by simp [zad,zab,h_4,q_14,h_15,c_18,c_21,c_24],NoBox.restrict (by intro k hk hb;simp at hk hb;simp [hk,hb,h_4,q_14,h_15,c_18,c_21,c_24,hn_13 k (by simp [hk,hb])])⟩
   ·try simp at h_15
    cases hp
    try simp [h_4,q_14,h_15]
    refine goal_outX ?_
    rw [X_11_]
    exact ⟨_,rfl,by simp [zad,zab,h_4,q_14,h_15],NoBox.restrict (by intro k hk hb;simp at hk hb;simp [hk,hb,h_4,q_14,h_15,hn_13 k (by simp [hk,hb])])⟩
  ·intro out hX
   rw [X_11_] at hX
   obtain ⟨σ_27,rfl,q_29,hn_28⟩:=hX
   cases hp
   simp [Goal,FnEnd,h_4,q_29]
 ·try simp at h_4
  cases hp
  simp [Goal,FnEnd,h_4]
theorem pc38:PC Try.prog 38 C38:=pc_of (g:=g38) (zag _ g38_s.2.1 ⟨pc70,pc71,pc72,pc73,trivial⟩) (ent Try.func38) fun x y h=>w38 h

def C77:List AV→Option AV:=specP (X:=TStructure × Int × Int × Unit) fun x=>impl_NextOf x.1 x.2.1 x.2.2.1
theorem C77_eq {s i j} {y} (h:impl_NextOf s i j=some y):C77 [av .shr s,av .shr i,av .shr j]=some (Res.res y):=zaf (x:=(s,i,j,())) h
def g77:Cfg:={ P:=Try.prog,take:=[],keep:=[],gho:=[],ctx:=[(70,C70)] }
@[simp] theorem g77_s:type_of% (cfg_s (g:=g77) rfl):=cfg_s rfl
theorem w77 {s i j} {y} (hp:impl_NextOf s i j=some y):∃ m,callo g77 0 77 [av .shr s,av .shr i,av .shr j] mem0=some (Res.res y,m):=by
 refine st0 [.tmp 6] Try.func77 ?_
 unfold impl_NextOf at hp
 obtain ⟨y_1,h_2,hp⟩:=zaa hp
 have c_3:=C70_eq h_2
 simp at c_3
 simp [Try.f77,c_3]
 rcases zae hp with ⟨h_4,hp⟩|⟨h_4,hp⟩
 ·try simp at h_4
  obtain ⟨y_5,h_6,hp⟩:=zaa hp
  have c_7:=C70_eq h_6
  simp at c_7
  try simp [h_4,c_7]
  rcases zae hp with ⟨h_8,hp⟩|⟨h_8,hp⟩
  ·try simp at h_8
   try simp [h_4,h_8]
   rcases zae hp with ⟨h_9,hp⟩|⟨h_9,hp⟩
   ·try simp at h_9
    cases hp
    simp [Goal,FnEnd,h_4,h_8,h_9]
   ·try simp at h_9
    obtain ⟨e_10,h_11,hp⟩:=zaa hp
    have b_12:=at_lo h_11
    have b_13:=at_hi h_11
    try simp at b_12 b_13
    have c_14:=seg_at' h_11 0 1 (by decide) (ds:=[.sc (.int .i64 e_10)]) rfl
    try simp at c_14
    cases hp
    simp [Goal,FnEnd,h_4,h_8,h_9,b_12,b_13,c_14]
  ·try simp at h_8
   cases hp
   simp [Goal,FnEnd,h_4,h_8]
 ·try simp at h_4
  cases hp
  simp [Goal,FnEnd,h_4]
theorem pc77:PC Try.prog 77 C77:=pc_of (g:=g77) (zag _ g77_s.2.1 ⟨pc70,trivial⟩) (ent Try.func77) fun x y h=>w77 h

def C78:List AV→Option AV:=specP (X:=Int × Int × Unit) fun x=>impl_JoinOf x.1 x.2.1
theorem C78_eq {a_ b_} {y} (h:impl_JoinOf a_ b_=some y):C78 [av .shr a_,av .shr b_]=some (Res.res y):=zaf (x:=(a_,b_,())) h
def g78:Cfg:={ P:=Try.prog,take:=[],keep:=[],gho:=[],ctx:=[(68,C68)] }
@[simp] theorem g78_s:type_of% (cfg_s (g:=g78) rfl):=cfg_s rfl
theorem w78 {a_ b_} {y} (hp:impl_JoinOf a_ b_=some y):∃ m,callo g78 0 78 [av .shr a_,av .shr b_] mem0=some (Res.res y,m):=by
 refine st0 [.tmp 4] Try.func78 ?_
 unfold impl_JoinOf at hp
 simp [Try.f78]
 rcases zae hp with ⟨h_1,hp⟩|⟨h_1,hp⟩
 ·try simp at h_1
  cases hp
  simp [Goal,FnEnd,h_1]
 ·try simp at h_1
  obtain ⟨y_2,h_3,hp⟩:=zaa hp
  have c_4:=C68_eq h_3
  simp at c_4
  try simp [h_1,c_4]
  rcases zae hp with ⟨h_5,hp⟩|⟨h_5,hp⟩
  ·try simp at h_5
   cases hp
   simp [Goal,FnEnd,h_1,h_5]
  ·try simp at h_5
   cases hp
   simp [Goal,FnEnd,h_1,h_5]
theorem pc78:PC Try.prog 78 C78:=pc_of (g:=g78) (zag _ g78_s.2.1 ⟨pc68,trivial⟩) (ent Try.func78) fun x y h=>w78 h

def C42:List AV→Option AV:=specP (X:=TStructure × (List Int) × (List Int) × Unit) fun x=>impl_joinNext x.1 x.2.1 x.2.2.1
theorem C42_eq {s from_ to_} {y} (h:impl_joinNext s from_ to_=some y):C42 [av .shr s,av .shr from_,av .shr to_]=some (Res.res y):=zaf (x:=(s,from_,to_,())) h
def g42:Cfg:={ P:=Try.prog,take:=[],keep:=[((42,3),{ hd:=[2,3,7,20,21,22],bx:=[],ex:=[7],rt:=[6] }),((42,6),{ hd:=[2,3,7,9,20,21,22,26,27,28],bx:=[],ex:=[2,3,7,20,21,22],rt:=[6] })],gho:=[],ctx:=[(77,C77),(78,C78)] }
@[simp] theorem g42_s:type_of% (cfg_s (g:=g42) rfl):=cfg_s rfl
theorem w42 {s from_ to_} {y} (hp:impl_joinNext s from_ to_=some y):∃ m,callo g42 0 42 [av .shr s,av .shr from_,av .shr to_] mem0=some (Res.res y,m):=by
 refine st0 [.tmp 6] Try.func42 ?_
 unfold impl_joinNext at hp
 obtain ⟨e_1,h_2,hp⟩:=zaa hp
 have b_4:=at_hi h_2
 try simp at b_4
 have c_5:=seg_at' h_2 0 1 (by decide) (ds:=[.sc (.int .i64 e_1)]) rfl
 try simp at c_5
 obtain ⟨e_6,h_7,hp⟩:=zaa hp
 have b_9:=at_hi h_7
 try simp at b_9
 have c_10:=seg_at' h_7 0 1 (by decide) (ds:=[.sc (.int .i64 e_6)]) rfl
 try simp at c_10
 obtain ⟨y_11,h_12,hp⟩:=zaa hp
 have c_13:=C77_eq h_12
 simp at c_13
 simp [Try.f42,b_4,c_5,b_9,c_10,c_13]
 obtain ⟨r_51,h_52,hp⟩:=zaa hp
 obtain ⟨I_16,I_16_⟩:=exV fun (s_14:Int × Int) (σ:St)=>(σ.env 2=uL .shr to_∧σ.env 3=uP (1,3)∧σ.env 7=uI s_14.1∧σ.env 20=uL .shr from_∧σ.env 21=uI (from_.length:Int)∧σ.env 22=uI s_14.2∧σ.mem (1,3)=some [cL .shr s.nodes,cL .shr s.next])∧NoBox [(1,3)] σ.mem
 obtain ⟨X_17,X_17_⟩:=exV fun (r_51:Int) (out:Out)=>∃ σ:St,out=.exit 0 σ∧(σ.env 7=uI r_51∧σ.mem (1,3)=some [cL .shr s.nodes,cL .shr s.next])∧NoBox [(1,3)] σ.mem
 refine loopP ({ hd:=[2,3,7,20,21,22],bx:=[],ex:=[7],rt:=[6] }) I_16 X_17 h_52 (by exact rfl) ?_ ?_ ?_
 ·rw [I_16_]
  exact ⟨by simp [zad,zab],NoBox.restrict (by intro k hk hb;simp at hk hb;simp [hk,hb])⟩
 ·intro s_14 σ_18 a_15 hI hp
  rw [I_16_] at hI
  obtain ⟨q_20,hn_19⟩:=hI
  try simp [q_20]
  rcases zae hp with ⟨h_21,hp⟩|⟨h_21,hp⟩
  ·try simp at h_21
   obtain ⟨e_22,h_23,hp⟩:=zaa hp
   have b_24:=at_lo h_23
   have b_25:=at_hi h_23
   try simp at b_24 b_25
   have c_26:=seg_at' h_23 0 1 (by decide) (ds:=[.sc (.int .i64 e_22)]) rfl
   try simp at c_26
   try simp [q_20,h_21,b_24,b_25,c_26]
   obtain ⟨r_46,h_47,hp⟩:=zaa hp
   obtain ⟨I_29,I_29_⟩:=exV fun (s_27:Int × Int) (σ:St)=>(σ.env 2=uL .shr to_∧σ.env 3=uP (1,3)∧σ.env 7=uI s_27.1∧σ.env 9=uI e_22∧σ.env 20=uL .shr from_∧σ.env 21=uI (from_.length:Int)∧σ.env 22=uI s_14.2∧σ.env 26=uL .shr to_∧σ.env 27=uI (to_.length:Int)∧σ.env 28=uI s_27.2∧σ.mem (1,3)=some [cL .shr s.nodes,cL .shr s.next])∧NoBox [(1,3)] σ.mem
   obtain ⟨X_30,X_30_⟩:=exV fun (r_46:Int) (out:Out)=>∃ σ:St,out=.exit 2 σ∧(σ.env 2=uL .shr to_∧σ.env 3=uP (1,3)∧σ.env 7=uI r_46∧σ.env 20=uL .shr from_∧σ.env 21=uI (from_.length:Int)∧σ.env 22=uI s_14.2∧σ.mem (1,3)=some [cL .shr s.nodes,cL .shr s.next])∧NoBox [(1,3)] σ.mem
   refine loopP ({ hd:=[2,3,7,9,20,21,22,26,27,28],bx:=[],ex:=[2,3,7,20,21,22],rt:=[6] }) I_29 X_30 h_47 (by exact rfl) ?_ ?_ ?_
   ·rw [I_29_]
    exact ⟨by simp [zad,zab,q_20,h_21],NoBox.restrict (by intro k hk hb;simp at hk hb;simp [hk,hb,q_20,h_21,hn_19 k (by simp [hk,hb])])⟩
   ·intro s_27 σ_31 a_28 hI hp
    rw [I_29_] at hI
    obtain ⟨q_33,hn_32⟩:=hI
    try simp [h_21,q_33]
    rcases zae hp with ⟨h_34,hp⟩|⟨h_34,hp⟩
    ·try simp at h_34
     obtain ⟨e_35,h_36,hp⟩:=zaa hp
     have b_37:=at_lo h_36
     have b_38:=at_hi h_36
     try simp at b_37 b_38
     have c_39:=seg_at' h_36 0 1 (by decide) (ds:=[.sc (.int .i64 e_35)]) rfl
     try simp at c_39
     obtain ⟨y_40,h_41,hp⟩:=zaa hp
     have c_42:=C77_eq h_41
     simp at c_42
     obtain ⟨y_43,h_44,hp⟩:=zaa hp
     have c_45:=C78_eq h_44
     simp at c_45
     cases hp
     try simp [h_21,q_33,h_34,b_37,b_38,c_39,c_42,c_45]
     refine zaj ?_
     rw [I_29_]
     exact ⟨by simp [zad,zab,h_21,q_33,h_34,b_37,b_38,c_39,c_42,c_45],NoBox.restrict (by intro k hk hb;simp at hk hb;simp [hk,hb,h_21,q_33,h_34,b_37,b_38,c_39,c_42,c_45,hn_32 k (by simp [hk,hb])])⟩
    ·try simp at h_34
     cases hp
     try simp [h_21,q_33,h_34]
     refine goal_outX ?_
     rw [X_30_]
     exact ⟨_,rfl,by simp [zad,zab,h_21,q_33,h_34],NoBox.restrict (by intro k hk hb;simp at hk hb;simp [hk,hb,h_21,q_33,h_34,hn_32 k (by simp [hk,hb])])⟩
   ·intro out hX
    rw [X_30_] at hX
    obtain ⟨σ_48,rfl,q_50,hn_49⟩:=hX
    cases hp
    try simp [h_21,q_50]
    refine zaj ?_
    rw [I_16_]
    exact ⟨by simp [zad,zab,h_21,q_50],NoBox.restrict (by intro k hk hb;simp at hk hb;simp [hk,hb,h_21,q_50,hn_49 k (by simp [hk,hb])])⟩
  ·try simp at h_21
   cases hp
   try simp [q_20,h_21]
   refine goal_outX ?_
   rw [X_17_]
   exact ⟨_,rfl,by simp [zad,zab,q_20,h_21],NoBox.restrict (by intro k hk hb;simp at hk hb;simp [hk,hb,q_20,h_21,hn_19 k (by simp [hk,hb])])⟩
 ·intro out hX
  rw [X_17_] at hX
  obtain ⟨σ_53,rfl,q_55,hn_54⟩:=hX
  cases hp
  simp [Goal,FnEnd,q_55]
theorem pc42:PC Try.prog 42 C42:=pc_of (g:=g42) (zag _ g42_s.2.1 ⟨pc77,pc78,trivial⟩) (ent Try.func42) fun x y h=>w42 h

def C12:List AV→Option AV:=specP (X:=TStructure × Unit) fun x=>impl_Blur x.1
theorem C12_eq {s} {y} (h:impl_Blur s=some y):C12 [av .shr s]=some (Res.res y):=zaf (x:=(s,())) h
def g12:Cfg:={ P:=Try.prog,take:=[(12,99),(12,100),(12,111),(12,125)],keep:=[((12,17),{ hd:=[1,2,3,4,7,60,61,62],bx:=[10],ex:=[2,7],rt:=[2] }),((12,21),{ hd:=[1,2,3,4,7,9,10,60,61,62,78,79,80],bx:=[],ex:=[1,2,3,4,7,9,10,60,61,62],rt:=[2] }),((12,28),{ hd:=[1,2,3,4,7,9,60,61,62,104,105,106],bx:=[],ex:=[1,2,3,4,7,60,61,62],rt:=[2] })],gho:=[],ctx:=[(35,C35),(36,C36),(37,C37),(38,C38),(41,C41),(42,C42)] }
@[simp] theorem g12_s:type_of% (cfg_s (g:=g12) rfl):=cfg_s rfl
theorem w12 {s} {y} (hp:impl_Blur s=some y):∃ m,callP g12 12 (Try.f12.body.getD .skip) [.cell 2 30] 2 3 (pre12 C38) [av .shr s]=some (Res.res y,m):=by
 refine start_pre [.cell 2 30] ?_
 unfold impl_Blur at hp
 simp [Try.f12,takeS,dropS]
 rcases zae hp with ⟨h_1,hp⟩|⟨h_1,hp⟩
 ·try simp at h_1
  cases hp
  simp [Goal,FnEnd,retR,rsrc,RSrc.val,nodupR,nodup,tupPart,h_1]
 ·try simp at h_1
  obtain ⟨y_2,h_3,hp⟩:=zaa hp
  have c_4:=C36_eq h_3
  simp at c_4
  obtain ⟨y_5,h_6,hp⟩:=zaa hp
  have c_7:=C35_eq h_6
  simp at c_7
  try simp [h_1,c_4,c_7]
  rcases zae hp with ⟨h_8,hp⟩|⟨h_8,hp⟩
  ·try simp at h_8
   obtain ⟨p_9,h_10,hp⟩:=zaa hp
   try simp [h_1,h_8]
   refine goal_pre (pre12_eq (F:=C38) (fun s i x h=>C38_eq h) (s:=s) h_10 (by simp [h_1,h_8]) (by simp [h_1,h_8])) ?_
   try simp [h_1,h_8]
   obtain ⟨r_96,h_97,hp⟩:=zaa hp
   obtain ⟨I_13,I_13_⟩:=exV fun (s_11:Int × (List TNode) × (List Int)) (σ:St)=>(σ.env 1=uP (1,1)∧σ.env 2=uP (1,2)∧σ.env 3=.one (.mp (encM p_9.1))∧σ.env 4=uL .shr p_9.2∧σ.env 7=uP (1,7)∧σ.env 60=uL .shr p_9.2∧σ.env 61=uI (p_9.2.length:Int)∧σ.env 62=uI s_11.1∧σ.mem (1,1)=some [cL .shr s.nodes,cL .shr s.next]∧σ.mem (1,2)=some [.l .own 0 [],.l .own 0 []]∧σ.mem (1,7)=some [cL .own s_11.2.1,cL .own s_11.2.2])∧NoBox [(1,1),(1,2),(1,7)] σ.mem
   obtain ⟨X_14,X_14_⟩:=exV fun (r_96:(List TNode) × (List Int)) (out:Out)=>∃ σ:St,out=.exit 3 σ∧(σ.env 2=uP (1,2)∧σ.env 7=uP (1,7)∧σ.mem (1,1)=some [cL .shr s.nodes,cL .shr s.next]∧σ.mem (1,2)=some [.l .own 0 [],.l .own 0 []]∧σ.mem (1,7)=some [cL .own r_96.1,cL .own r_96.2])∧NoBox [(1,1),(1,2),(1,7)] σ.mem
   refine loopP ({ hd:=[1,2,3,4,7,60,61,62],bx:=[10],ex:=[2,7],rt:=[2] }) I_13 X_14 h_97 (by exact rfl) ?_ ?_ ?_
   ·rw [I_13_]
    exact ⟨by simp [zad,zab,h_1,h_8],NoBox.restrict (by intro k hk hb;simp at hk hb;simp [hk,hb,h_1,h_8])⟩
   ·intro s_11 σ_15 a_12 hI hp
    rw [I_13_] at hI
    obtain ⟨q_17,hn_16⟩:=hI
    try simp [h_1,h_8,q_17]
    rcases zae hp with ⟨h_18,hp⟩|⟨h_18,hp⟩
    ·try simp at h_18
     obtain ⟨e_19,h_20,hp⟩:=zaa hp
     have b_21:=at_lo h_20
     have b_22:=at_hi h_20
     try simp at b_21 b_22
     have c_23:=seg_at' h_20 0 1 (by decide) (ds:=[.sc (.string e_19)]) rfl
     try simp at c_23
     obtain ⟨y_24,h_25,hp⟩:=zaa hp
     have c_26:=lookM_enc h_25
     obtain ⟨e_27,h_28,hp⟩:=zaa hp
     have b_30:=at_hi h_28
     try simp at b_30
     have c_31:=seg_at' h_28 0 1 (by decide) (ds:=[.sc (.int .i64 e_27)]) rfl
     try simp at c_31
     obtain ⟨e_32,h_33,hp⟩:=zaa hp
     have b_34:=at_lo h_33
     have b_35:=at_hi h_33
     try simp at b_34 b_35
     have c_36:=seg_at' h_33 0 4 (by decide) (ds:=[.sl e_32.vars.length (encL e_32.vars),.sl e_32.reach.length (encL e_32.reach),.sc (.int .i64 e_32.shared),.sc (.int .i64 e_32.many)]) rfl
     try simp at c_36
     obtain ⟨y_37,h_38,hp⟩:=zaa hp
     have c_39:=C41_eq h_38
     simp at c_39
     have n_40:=hn_16 (1,10) (by simp)
     obtain ⟨_,h_41,hp⟩:=zaa hp
     cases Option.some.inj (h_25.symm.trans h_41)
     try simp [h_1,h_8,q_17,h_18,b_21,b_22,c_23,Try.underlying60,Try.underlying9,c_26,b_30,c_31,b_34,b_35,c_36,c_39,n_40,Try.underlying60,Try.underlying9,c_26]
     obtain ⟨r_62,h_63,hp⟩:=zaa hp
     obtain ⟨I_44,I_44_⟩:=exV fun (s_42:Int × Int) (σ:St)=>(σ.env 1=uP (1,1)∧σ.env 2=uP (1,2)∧σ.env 3=.one (.mp (encM p_9.1))∧σ.env 4=uL .shr p_9.2∧σ.env 7=uP (1,7)∧σ.env 9=.one (.s (.string e_19))∧σ.env 10=uP (1,10)∧σ.env 60=uL .shr p_9.2∧σ.env 61=uI (p_9.2.length:Int)∧σ.env 62=uI s_11.1∧σ.env 78=uL .shr y_24∧σ.env 79=uI (y_24.length:Int)∧σ.env 80=uI s_42.1∧σ.mem (1,1)=some [cL .shr s.nodes,cL .shr s.next]∧σ.mem (1,2)=some [.l .own 0 [],.l .own 0 []]∧σ.mem (1,7)=some [cL .own s_11.2.1,cL .own s_11.2.2]∧σ.mem (1,10)=some [cL .own y_37.vars,cL .own y_37.reach,cI y_37.shared,cI s_42.2])∧NoBox [(1,1),(1,2),(1,7),(1,10)] σ.mem
     obtain ⟨X_45,X_45_⟩:=exV fun (r_62:Int) (out:Out)=>∃ σ:St,out=.exit 5 σ∧(σ.env 1=uP (1,1)∧σ.env 2=uP (1,2)∧σ.env 3=.one (.mp (encM p_9.1))∧σ.env 4=uL .shr p_9.2∧σ.env 7=uP (1,7)∧σ.env 9=.one (.s (.string e_19))∧σ.env 10=uP (1,10)∧σ.env 60=uL .shr p_9.2∧σ.env 61=uI (p_9.2.length:Int)∧σ.env 62=uI s_11.1∧σ.mem (1,1)=some [cL .shr s.nodes,cL .shr s.next]∧σ.mem (1,2)=some [.l .own 0 [],.l .own 0 []]∧σ.mem (1,7)=some [cL .own s_11.2.1,cL .own s_11.2.2]∧σ.mem (1,10)=some [cL .own y_37.vars,cL .own y_37.reach,cI y_37.shared,cI r_62])∧NoBox [(1,1),(1,2),(1,7),(1,10)] σ.mem
     refine loopP ({ hd:=[1,2,3,4,7,9,10,60,61,62,78,79,80],bx:=[],ex:=[1,2,3,4,7,9,10,60,61,62],rt:=[2] }) I_44 X_45 h_63 (by exact rfl) ?_ ?_ ?_
     ·rw [I_44_]
      exact ⟨by simp [zad,zab,h_1,h_8,q_17,h_18],NoBox.restrict (by intro k hk hb;simp at hk hb;simp [hk,hb,h_1,h_8,q_17,h_18,hn_16 k (by simp [hk,hb])])⟩
     ·intro s_42 σ_46 a_43 hI hp
      rw [I_44_] at hI
      obtain ⟨q_48,hn_47⟩:=hI
      try simp [h_1,h_8,h_18,q_48]
      rcases zae hp with ⟨h_49,hp⟩|⟨h_49,hp⟩
      ·try simp at h_49
       obtain ⟨e_50,h_51,hp⟩:=zaa hp
       have b_52:=at_lo h_51
       have b_53:=at_hi h_51
       try simp at b_52 b_53
       have c_54:=seg_at' h_51 0 1 (by decide) (ds:=[.sc (.int .i64 e_50)]) rfl
       try simp at c_54
       try simp [h_1,h_8,h_18,q_48,h_49,b_52,b_53,c_54]
       rcases zae hp with ⟨h_55,hp⟩|⟨h_55,hp⟩
       ·try simp at h_55
        cases hp
        try simp [h_1,h_8,h_18,q_48,h_49,h_55]
        refine zaj ?_
        rw [I_44_]
        exact ⟨by simp [zad,zab,h_1,h_8,h_18,q_48,h_49,h_55],NoBox.restrict (by intro k hk hb;simp at hk hb;simp [hk,hb,h_1,h_8,h_18,q_48,h_49,h_55,hn_47 k (by simp [hk,hb])])⟩
       ·try simp at h_55
        obtain ⟨e_56,h_57,hp⟩:=zaa hp
        have b_58:=at_lo h_57
        have b_59:=at_hi h_57
        try simp at b_58 b_59
        have c_60:=seg_at' h_57 3 1 (by decide) (ds:=[.sc (.int .i64 e_56.many)]) rfl
        try simp at c_60
        try simp [h_1,h_8,h_18,q_48,h_49,h_55,b_58,b_59,c_60]
        rcases zae hp with ⟨h_61,hp⟩|⟨h_61,hp⟩
        ·try simp at h_61
         cases hp
         try simp [h_1,h_8,h_18,q_48,h_49,h_55,h_61]
         refine zaj ?_
         rw [I_44_]
         exact ⟨by simp [zad,zab,h_1,h_8,h_18,q_48,h_49,h_55,h_61],NoBox.restrict (by intro k hk hb;simp at hk hb;simp [hk,hb,h_1,h_8,h_18,q_48,h_49,h_55,h_61,hn_47 k (by simp [hk,hb])])⟩
        ·try simp at h_61
         cases hp
         try simp [h_1,h_8,h_18,q_48,h_49,h_55,h_61]
         refine zaj ?_
         rw [I_44_]
         exact ⟨by simp [zad,zab,h_1,h_8,h_18,q_48,h_49,h_55,h_61],NoBox.restrict (by intro k hk hb;simp at hk hb;simp [hk,hb,h_1,h_8,h_18,q_48,h_49,h_55,h_61,hn_47 k (by simp [hk,hb])])⟩
      ·try simp at h_49
       cases hp
       try simp [h_1,h_8,h_18,q_48,h_49]
       refine goal_outX ?_
       rw [X_45_]
       exact ⟨_,rfl,by simp [zad,zab,h_1,h_8,h_18,q_48,h_49],NoBox.restrict (by intro k hk hb;simp at hk hb;simp [hk,hb,h_1,h_8,h_18,q_48,h_49,hn_47 k (by simp [hk,hb])])⟩
     ·intro out hX
      rw [X_45_] at hX
      obtain ⟨σ_64,rfl,q_66,hn_65⟩:=hX
      obtain ⟨_,h_67,hp⟩:=zaa hp
      have b_68:=room_ok h_67
      try simp at b_68
      try simp [h_1,h_8,h_18,q_66,b_68]
      obtain ⟨r_91,h_92,hp⟩:=zaa hp
      obtain ⟨I_71,I_71_⟩:=exV fun (s_69:Int × (List Int)) (σ:St)=>(σ.env 1=uP (1,1)∧σ.env 2=uP (1,2)∧σ.env 3=.one (.mp (encM p_9.1))∧σ.env 4=uL .shr p_9.2∧σ.env 7=uP (1,7)∧σ.env 9=.one (.s (.string e_19))∧σ.env 60=uL .shr p_9.2∧σ.env 61=uI (p_9.2.length:Int)∧σ.env 62=uI s_11.1∧σ.env 104=uL .shr p_9.2∧σ.env 105=uI (p_9.2.length:Int)∧σ.env 106=uI s_69.1∧σ.mem (1,1)=some [cL .shr s.nodes,cL .shr s.next]∧σ.mem (1,2)=some [.l .own 0 [],.l .own 0 []]∧σ.mem (1,7)=some [cL .own (s_11.2.1 ++ [(⟨y_37.vars,y_37.reach,y_37.shared,r_62⟩:TNode)]),cL .own s_69.2]∧σ.mem (1,10)=some [.dead,.dead,.dead,.dead])∧NoBox [(1,1),(1,2),(1,7),(1,10)] σ.mem
      obtain ⟨X_72,X_72_⟩:=exV fun (r_91:(List Int)) (out:Out)=>∃ σ:St,out=.exit 7 σ∧(σ.env 1=uP (1,1)∧σ.env 2=uP (1,2)∧σ.env 3=.one (.mp (encM p_9.1))∧σ.env 4=uL .shr p_9.2∧σ.env 7=uP (1,7)∧σ.env 60=uL .shr p_9.2∧σ.env 61=uI (p_9.2.length:Int)∧σ.env 62=uI s_11.1∧σ.mem (1,1)=some [cL .shr s.nodes,cL .shr s.next]∧σ.mem (1,2)=some [.l .own 0 [],.l .own 0 []]∧σ.mem (1,7)=some [cL .own (s_11.2.1 ++ [(⟨y_37.vars,y_37.reach,y_37.shared,r_62⟩:TNode)]),cL .own r_91]∧σ.mem (1,10)=some [.dead,.dead,.dead,.dead])∧NoBox [(1,1),(1,2),(1,7),(1,10)] σ.mem
      refine loopP ({ hd:=[1,2,3,4,7,9,60,61,62,104,105,106],bx:=[],ex:=[1,2,3,4,7,60,61,62],rt:=[2] }) I_71 X_72 h_92 (by exact rfl) ?_ ?_ ?_
      ·rw [I_71_]
       exact ⟨by simp [zad,zab,h_1,h_8,h_18,q_66],NoBox.restrict (by intro k hk hb;simp at hk hb;simp [hk,hb,h_1,h_8,h_18,q_66,hn_65 k (by simp [hk,hb])])⟩
      ·intro s_69 σ_73 a_70 hI hp
       rw [I_71_] at hI
       obtain ⟨q_75,hn_74⟩:=hI
       try simp [h_1,h_8,h_18,q_75]
       rcases zae hp with ⟨h_76,hp⟩|⟨h_76,hp⟩
       ·try simp at h_76
        obtain ⟨e_77,h_78,hp⟩:=zaa hp
        have b_79:=at_lo h_78
        have b_80:=at_hi h_78
        try simp at b_79 b_80
        have c_81:=seg_at' h_78 0 1 (by decide) (ds:=[.sc (.string e_77)]) rfl
        try simp at c_81
        obtain ⟨_,h_82,hp⟩:=zaa hp
        cases Option.some.inj (h_25.symm.trans h_82)
        obtain ⟨y_83,h_84,hp⟩:=zaa hp
        have c_85:=lookM_enc h_84
        obtain ⟨y_86,h_87,hp⟩:=zaa hp
        have c_88:=C42_eq h_87
        simp at c_88
        obtain ⟨_,h_89,hp⟩:=zaa hp
        have b_90:=room_ok h_89
        try simp at b_90
        cases hp
        try simp [h_1,h_8,h_18,q_75,h_76,b_79,b_80,c_81,Try.underlying60,Try.underlying9,c_26,Try.underlying60,Try.underlying9,c_85,c_88,b_90]
        refine zaj ?_
        rw [I_71_]
        exact ⟨by simp [zad,zab,h_1,h_8,h_18,q_75,h_76,b_79,b_80,c_81,Try.underlying60,Try.underlying9,c_26,Try.underlying60,Try.underlying9,c_85,c_88,b_90],NoBox.restrict (by intro k hk hb;simp at hk hb;simp [hk,hb,h_1,h_8,h_18,q_75,h_76,b_79,b_80,c_81,Try.underlying60,Try.underlying9,c_26,Try.underlying60,Try.underlying9,c_85,c_88,b_90,hn_74 k (by simp [hk,hb])])⟩
       ·try simp at h_76
        cases hp
        try simp [h_1,h_8,h_18,q_75,h_76]
        refine goal_outX ?_
        rw [X_72_]
        exact ⟨_,rfl,by simp [zad,zab,h_1,h_8,h_18,q_75,h_76],NoBox.restrict (by intro k hk hb;simp at hk hb;simp [hk,hb,h_1,h_8,h_18,q_75,h_76,hn_74 k (by simp [hk,hb])])⟩
      ·intro out hX
       rw [X_72_] at hX
       obtain ⟨σ_93,rfl,q_95,hn_94⟩:=hX
       cases hp
       try simp [h_1,h_8,h_18,q_95]
       refine zaj ?_
       rw [I_13_]
       exact ⟨by simp [zad,zab,h_1,h_8,h_18,q_95],NoBox.restrict (by intro k hk hb;simp at hk hb;simp [hk,hb,h_1,h_8,h_18,q_95,hn_94 k (by simp [hk,hb])])⟩
    ·try simp at h_18
     cases hp
     try simp [h_1,h_8,q_17,h_18]
     refine goal_outX ?_
     rw [X_14_]
     exact ⟨_,rfl,by simp [zad,zab,h_1,h_8,q_17,h_18],NoBox.restrict (by intro k hk hb;simp at hk hb;simp [hk,hb,h_1,h_8,q_17,h_18,hn_16 k (by simp [hk,hb])])⟩
   ·intro out hX
    rw [X_14_] at hX
    obtain ⟨σ_98,rfl,q_100,hn_99⟩:=hX
    cases hp
    simp [Goal,FnEnd,retR,rsrc,RSrc.val,nodupR,nodup,tupPart,h_1,h_8,q_100]
  ·try simp at h_8
   obtain ⟨y_101,h_102,hp⟩:=zaa hp
   have c_103:=C37_eq h_102
   simp at c_103
   cases hp
   simp [Goal,FnEnd,retR,rsrc,RSrc.val,nodupR,nodup,tupPart,h_1,h_8,c_103]
theorem pc12:PC Try.prog 12 C12:=pc_of_pre (g:=g12) (zag _ g12_s.2.1 ⟨pc35,pc36,pc37,pc38,pc41,pc42,trivial⟩) (n1:=2) (n2:=3) (c:=(Try.f12.body.getD .skip)) Try.func12 (by kernel_rfl) (by kernel_rfl) (preOK12 pc38) (fun x=>by show _≤126;simp [Args.args]) fun x y h=>w12 h
end Go.Proofs


set_option maxHeartbeats 4000000
set_option maxRecDepth 100000
namespace Go.Proofs
open Go.Ev
def C28:List AV→Option AV:=specP (X:=(List Int) × (List Int) × Unit) fun x=>laws_eqIntS x.1 x.2.1
theorem C28_eq {a_ b_} {y} (h:laws_eqIntS a_ b_=some y):C28 [av .shr a_,av .shr b_]=some (Res.res y):=zaf (x:=(a_,b_,())) h
def g28:Cfg:={ P:=Try.prog,take:=[],keep:=[((28,4),{ hd:=[0,1,5],bx:=[],ex:=[],rt:=[4] })],gho:=[],ctx:=[] }
@[simp] theorem g28_s:type_of% (cfg_s (g:=g28) rfl):=cfg_s rfl
theorem w28 {a_ b_} {y} (hp:laws_eqIntS a_ b_=some y):∃ m,callo g28 0 28 [av .shr a_,av .shr b_] mem0=some (Res.res y,m):=by
 refine st0 [.tmp 4] Try.func28 ?_
 unfold laws_eqIntS at hp
 simp [Try.f28]
 rcases zae hp with ⟨h_1,hp⟩|⟨h_1,hp⟩
 ·try simp at h_1
  cases hp
  simp [Goal,FnEnd,h_1]
 ·try simp at h_1
  try simp [h_1]
  obtain ⟨r_21,h_22,hp⟩:=zaa hp
  obtain ⟨I_4,I_4_⟩:=exV fun (s_2:Int) (σ:St)=>(σ.env 0=uL .shr a_∧σ.env 1=uL .shr b_∧σ.env 5=uI s_2)∧σ.mem=mem0
  obtain ⟨X_5,X_5_⟩:=exV fun (r_21:(Unit) ⊕ (Unit)) (out:Out)=>Sum.elim (fun r_21=>∃ σ:St,out=.ret σ∧σ.env 4=uB false∧σ.mem=mem0) (fun r_21=>∃ σ:St,out=.exit 0 σ∧σ.mem=mem0) r_21
  refine loopP ({ hd:=[0,1,5],bx:=[],ex:=[],rt:=[4] }) I_4 X_5 h_22 (by exact rfl) ?_ ?_ ?_
  ·rw [I_4_]
   exact ⟨by simp [zad,zab,h_1],by simp [zab,h_1]⟩
  ·intro s_2 σ_6 a_3 hI hp
   rw [I_4_] at hI
   obtain ⟨q_8,q_7⟩:=hI
   try simp [h_1,q_8,q_7]
   rcases zae hp with ⟨h_9,hp⟩|⟨h_9,hp⟩
   ·try simp at h_9
    obtain ⟨e_10,h_11,hp⟩:=zaa hp
    have b_12:=at_lo h_11
    have b_13:=at_hi h_11
    try simp at b_12 b_13
    have c_14:=seg_at' h_11 0 1 (by decide) (ds:=[.sc (.int .i64 e_10)]) rfl
    try simp at c_14
    obtain ⟨e_15,h_16,hp⟩:=zaa hp
    have b_17:=at_lo h_16
    have b_18:=at_hi h_16
    try simp at b_17 b_18
    have c_19:=seg_at' h_16 0 1 (by decide) (ds:=[.sc (.int .i64 e_15)]) rfl
    try simp at c_19
    try simp [h_1,q_8,q_7,h_9,b_12,b_13,c_14,b_17,b_18,c_19]
    rcases zae hp with ⟨h_20,hp⟩|⟨h_20,hp⟩
    ·try simp at h_20
     cases hp
     try simp [h_1,q_8,q_7,h_9,h_20]
     refine goal_outR ?_
     rw [X_5_]
     exact ⟨_,rfl,by simp [zad,zab,h_1,q_8,q_7,h_9,h_20],by simp [zab,h_1,q_8,q_7,h_9,h_20]⟩
    ·try simp at h_20
     cases hp
     try simp [h_1,q_8,q_7,h_9,h_20]
     refine zaj ?_
     rw [I_4_]
     exact ⟨by simp [zad,zab,h_1,q_8,q_7,h_9,h_20],by simp [zab,h_1,q_8,q_7,h_9,h_20]⟩
   ·try simp at h_9
    cases hp
    try simp [h_1,q_8,q_7,h_9]
    refine goal_outX ?_
    rw [X_5_]
    exact ⟨_,rfl,by simp [zab,h_1,q_8,q_7,h_9]⟩
  ·intro out hX
   rw [X_5_] at hX
   rcases r_21 with r_21 | r_21
   ·simp only [Sum.elim_inl,Sum.elim_inr] at hX hp
    obtain ⟨σ_23,rfl,q_25,q_24⟩:=hX
    cases hp
    simp [Goal,FnEnd,h_1,q_25,q_24]
   ·simp only [Sum.elim_inl,Sum.elim_inr] at hX hp
    obtain ⟨σ_26,rfl,q_27⟩:=hX
    cases hp
    simp [Goal,FnEnd,h_1,q_27]
theorem pc28:PC Try.prog 28 C28:=pc_of (g:=g28) (zag [] rfl trivial) (ent Try.func28) fun x y h=>w28 h

def C56:List AV→Option AV:=specP (X:=TNode × TNode × Unit) fun x=>laws_eqNode x.1 x.2.1
theorem C56_eq {a_ b_} {y} (h:laws_eqNode a_ b_=some y):C56 [av .shr a_,av .shr b_]=some (Res.res y):=zaf (x:=(a_,b_,())) h
def g56:Cfg:={ P:=Try.prog,take:=[],keep:=[],gho:=[],ctx:=[(28,C28)] }
@[simp] theorem g56_s:type_of% (cfg_s (g:=g56) rfl):=cfg_s rfl
theorem w56 {a_ b_} {y} (hp:laws_eqNode a_ b_=some y):∃ m,callo g56 0 56 [av .shr a_,av .shr b_] mem0=some (Res.res y,m):=by
 refine st0 [.tmp 4] Try.func56 ?_
 unfold laws_eqNode at hp
 obtain ⟨y_1,h_2,hp⟩:=zaa hp
 have c_3:=C28_eq h_2
 simp at c_3
 simp [Try.f56,c_3]
 rcases zae hp with ⟨h_4,hp⟩|⟨h_4,hp⟩
 ·try simp at h_4
  obtain ⟨y_5,h_6,hp⟩:=zaa hp
  have c_7:=C28_eq h_6
  simp at c_7
  try simp [h_4,c_7]
  rcases zae hp with ⟨h_8,hp⟩|⟨h_8,hp⟩
  ·try simp at h_8
   try simp [h_4,h_8]
   rcases zae hp with ⟨h_9,hp⟩|⟨h_9,hp⟩
   ·try simp at h_9
    cases hp
    simp [Goal,FnEnd,h_4,h_8,h_9]
   ·try simp at h_9
    try simp [h_4,h_8,h_9]
    rcases zae hp with ⟨h_10,hp⟩|⟨h_10,hp⟩
    ·try simp at h_10
     cases hp
     simp [Goal,FnEnd,h_4,h_8,h_9,h_10]
    ·try simp at h_10
     cases hp
     simp [Goal,FnEnd,h_4,h_8,h_9,h_10]
  ·try simp at h_8
   cases hp
   simp [Goal,FnEnd,h_4,h_8]
 ·try simp at h_4
  cases hp
  simp [Goal,FnEnd,h_4]
theorem pc56:PC Try.prog 56 C56:=pc_of (g:=g56) (zag _ g56_s.2.1 ⟨pc28,trivial⟩) (ent Try.func56) fun x y h=>w56 h

def C27:List AV→Option AV:=specP (X:=(List TNode) × (List TNode) × Unit) fun x=>laws_eqNodeS x.1 x.2.1
theorem C27_eq {a_ b_} {y} (h:laws_eqNodeS a_ b_=some y):C27 [av .shr a_,av .shr b_]=some (Res.res y):=zaf (x:=(a_,b_,())) h
def g27:Cfg:={ P:=Try.prog,take:=[],keep:=[((27,4),{ hd:=[0,1,5],bx:=[],ex:=[],rt:=[4] })],gho:=[],ctx:=[(56,C56)] }
@[simp] theorem g27_s:type_of% (cfg_s (g:=g27) rfl):=cfg_s rfl
theorem w27 {a_ b_} {y} (hp:laws_eqNodeS a_ b_=some y):∃ m,callo g27 0 27 [av .shr a_,av .shr b_] mem0=some (Res.res y,m):=by
 refine st0 [.tmp 4] Try.func27 ?_
 unfold laws_eqNodeS at hp
 simp [Try.f27]
 rcases zae hp with ⟨h_1,hp⟩|⟨h_1,hp⟩
 ·try simp at h_1
  cases hp
  simp [Goal,FnEnd,h_1]
 ·try simp at h_1
  try simp [h_1]
  obtain ⟨r_24,h_25,hp⟩:=zaa hp
  obtain ⟨I_4,I_4_⟩:=exV fun (s_2:Int) (σ:St)=>(σ.env 0=uL .shr a_∧σ.env 1=uL .shr b_∧σ.env 5=uI s_2)∧σ.mem=mem0
  obtain ⟨X_5,X_5_⟩:=exV fun (r_24:(Unit) ⊕ (Unit)) (out:Out)=>Sum.elim (fun r_24=>∃ σ:St,out=.ret σ∧σ.env 4=uB false∧σ.mem=mem0) (fun r_24=>∃ σ:St,out=.exit 0 σ∧σ.mem=mem0) r_24
  refine loopP ({ hd:=[0,1,5],bx:=[],ex:=[],rt:=[4] }) I_4 X_5 h_25 (by exact rfl) ?_ ?_ ?_
  ·rw [I_4_]
   exact ⟨by simp [zad,zab,h_1],by simp [zab,h_1]⟩
  ·intro s_2 σ_6 a_3 hI hp
   rw [I_4_] at hI
   obtain ⟨q_8,q_7⟩:=hI
   try simp [h_1,q_8,q_7]
   rcases zae hp with ⟨h_9,hp⟩|⟨h_9,hp⟩
   ·try simp at h_9
    obtain ⟨e_10,h_11,hp⟩:=zaa hp
    have b_12:=at_lo h_11
    have b_13:=at_hi h_11
    try simp at b_12 b_13
    have c_14:=seg_at' h_11 0 4 (by decide) (ds:=[.sl e_10.vars.length (encL e_10.vars),.sl e_10.reach.length (encL e_10.reach),.sc (.int .i64 e_10.shared),.sc (.int .i64 e_10.many)]) rfl
    try simp at c_14
    obtain ⟨e_15,h_16,hp⟩:=zaa hp
    have b_17:=at_lo h_16
    have b_18:=at_hi h_16
    try simp at b_17 b_18
    have c_19:=seg_at' h_16 0 4 (by decide) (ds:=[.sl e_15.vars.length (encL e_15.vars),.sl e_15.reach.length (encL e_15.reach),.sc (.int .i64 e_15.shared),.sc (.int .i64 e_15.many)]) rfl
    try simp at c_19
    obtain ⟨y_20,h_21,hp⟩:=zaa hp
    have c_22:=C56_eq h_21
    simp at c_22
    try simp [h_1,q_8,q_7,h_9,b_12,b_13,c_14,b_17,b_18,c_19,c_22]
    rcases zae hp with ⟨h_23,hp⟩|⟨h_23,hp⟩
    ·try simp at h_23
     cases hp
     try simp [h_1,q_8,q_7,h_9,h_23]
     refine zaj ?_
     rw [I_4_]
     exact ⟨by simp [zad,zab,h_1,q_8,q_7,h_9,h_23],by simp [zab,h_1,q_8,q_7,h_9,h_23]⟩
    ·try simp at h_23
     cases hp
     try simp [h_1,q_8,q_7,h_9,h_23]
     refine goal_outR ?_
     rw [X_5_]
     exact ⟨_,rfl,by simp [zad,zab,h_1,q_8,q_7,h_9,h_23],by simp [zab,h_1,q_8,q_7,h_9,h_23]⟩
   ·try simp at h_9
    cases hp
    try simp [h_1,q_8,q_7,h_9]
    refine goal_outX ?_
    rw [X_5_]
    exact ⟨_,rfl,by simp [zab,h_1,q_8,q_7,h_9]⟩
  ·intro out hX
   rw [X_5_] at hX
   rcases r_24 with r_24 | r_24
   ·simp only [Sum.elim_inl,Sum.elim_inr] at hX hp
    obtain ⟨σ_26,rfl,q_28,q_27⟩:=hX
    cases hp
    simp [Goal,FnEnd,h_1,q_28,q_27]
   ·simp only [Sum.elim_inl,Sum.elim_inr] at hX hp
    obtain ⟨σ_29,rfl,q_30⟩:=hX
    cases hp
    simp [Goal,FnEnd,h_1,q_30]
theorem pc27:PC Try.prog 27 C27:=pc_of (g:=g27) (zag _ g27_s.2.1 ⟨pc56,trivial⟩) (ent Try.func27) fun x y h=>w27 h

def C10:List AV→Option AV:=specP (X:=TStructure × TStructure × Unit) fun x=>laws_eqStructure x.1 x.2.1
theorem C10_eq {a_ b_} {y} (h:laws_eqStructure a_ b_=some y):C10 [av .shr a_,av .shr b_]=some (Res.res y):=zaf (x:=(a_,b_,())) h
def g10:Cfg:={ P:=Try.prog,take:=[],keep:=[],gho:=[],ctx:=[(27,C27),(28,C28)] }
@[simp] theorem g10_s:type_of% (cfg_s (g:=g10) rfl):=cfg_s rfl
theorem w10 {a_ b_} {y} (hp:laws_eqStructure a_ b_=some y):∃ m,callo g10 0 10 [av .shr a_,av .shr b_] mem0=some (Res.res y,m):=by
 refine st0 [.tmp 4] Try.func10 ?_
 unfold laws_eqStructure at hp
 obtain ⟨y_1,h_2,hp⟩:=zaa hp
 have c_3:=C27_eq h_2
 simp at c_3
 simp [Try.f10,c_3]
 rcases zae hp with ⟨h_4,hp⟩|⟨h_4,hp⟩
 ·try simp at h_4
  obtain ⟨y_5,h_6,hp⟩:=zaa hp
  have c_7:=C28_eq h_6
  simp at c_7
  try simp [h_4,c_7]
  rcases zae hp with ⟨h_8,hp⟩|⟨h_8,hp⟩
  ·try simp at h_8
   cases hp
   simp [Goal,FnEnd,h_4,h_8]
  ·try simp at h_8
   cases hp
   simp [Goal,FnEnd,h_4,h_8]
 ·try simp at h_4
  cases hp
  simp [Goal,FnEnd,h_4]
theorem pc10:PC Try.prog 10 C10:=pc_of (g:=g10) (zag _ g10_s.2.1 ⟨pc27,pc28,trivial⟩) (ent Try.func10) fun x y h=>w10 h

def C46:List AV→Option AV:=specP (X:=(List Int) × Int × Unit) fun x=>laws_heldIntS x.1 x.2.1
theorem C46_eq {a_ k_} {y} (h:laws_heldIntS a_ k_=some y):C46 [av .shr a_,av .shr k_]=some (Res.res y):=zaf (x:=(a_,k_,())) h
def g46:Cfg:={ P:=Try.prog,take:=[],keep:=[((46,2),{ hd:=[0,1,5],bx:=[],ex:=[1],rt:=[4] })],gho:=[],ctx:=[] }
@[simp] theorem g46_s:type_of% (cfg_s (g:=g46) rfl):=cfg_s rfl
theorem w46 {a_ k_} {y} (hp:laws_heldIntS a_ k_=some y):∃ m,callo g46 0 46 [av .shr a_,av .shr k_] mem0=some (Res.res y,m):=by
 refine st0 [.tmp 4] Try.func46 ?_
 unfold laws_heldIntS at hp
 simp [Try.f46]
 obtain ⟨r_15,h_16,hp⟩:=zaa hp
 obtain ⟨I_3,I_3_⟩:=exV fun (s_1:Int × Int) (σ:St)=>(σ.env 0=uL .shr a_∧σ.env 1=uI s_1.1∧σ.env 5=uI s_1.2)∧σ.mem=mem0
 obtain ⟨X_4,X_4_⟩:=exV fun (r_15:(Int) ⊕ (Int)) (out:Out)=>Sum.elim (fun r_15=>∃ σ:St,out=.ret σ∧σ.env 4=uI r_15∧σ.mem=mem0) (fun r_15=>∃ σ:St,out=.exit 0 σ∧σ.env 1=uI r_15∧σ.mem=mem0) r_15
 refine loopP ({ hd:=[0,1,5],bx:=[],ex:=[1],rt:=[4] }) I_3 X_4 h_16 (by exact rfl) ?_ ?_ ?_
 ·rw [I_3_]
  exact ⟨by simp [zad,zab],by simp [zab]⟩
 ·intro s_1 σ_5 a_2 hI hp
  rw [I_3_] at hI
  obtain ⟨q_7,q_6⟩:=hI
  try simp [q_7,q_6]
  rcases zae hp with ⟨h_8,hp⟩|⟨h_8,hp⟩
  ·try simp at h_8
   obtain ⟨e_9,h_10,hp⟩:=zaa hp
   have b_11:=at_lo h_10
   have b_12:=at_hi h_10
   try simp at b_11 b_12
   have c_13:=seg_at' h_10 0 1 (by decide) (ds:=[.sc (.int .i64 e_9)]) rfl
   try simp at c_13
   try simp [q_7,q_6,h_8,b_11,b_12,c_13]
   rcases zae hp with ⟨h_14,hp⟩|⟨h_14,hp⟩
   ·try simp at h_14
    cases hp
    try simp [q_7,q_6,h_8,h_14]
    refine goal_outR ?_
    rw [X_4_]
    exact ⟨_,rfl,by simp [zad,zab,q_7,q_6,h_8,h_14],by simp [zab,q_7,q_6,h_8,h_14]⟩
   ·try simp at h_14
    cases hp
    try simp [q_7,q_6,h_8,h_14]
    refine zaj ?_
    rw [I_3_]
    exact ⟨by simp [zad,zab,q_7,q_6,h_8,h_14],by simp [zab,q_7,q_6,h_8,h_14]⟩
  ·try simp at h_8
   cases hp
   try simp [q_7,q_6,h_8]
   refine goal_outX ?_
   rw [X_4_]
   exact ⟨_,rfl,by simp [zad,zab,q_7,q_6,h_8],by simp [zab,q_7,q_6,h_8]⟩
 ·intro out hX
  rw [X_4_] at hX
  rcases r_15 with r_15 | r_15
  ·simp only [Sum.elim_inl,Sum.elim_inr] at hX hp
   obtain ⟨σ_17,rfl,q_19,q_18⟩:=hX
   cases hp
   simp [Goal,FnEnd,q_19,q_18]
  ·simp only [Sum.elim_inl,Sum.elim_inr] at hX hp
   obtain ⟨σ_20,rfl,q_22,q_21⟩:=hX
   cases hp
   simp [Goal,FnEnd,q_22,q_21]
theorem pc46:PC Try.prog 46 C46:=pc_of (g:=g46) (zag [] rfl trivial) (ent Try.func46) fun x y h=>w46 h

def C45:List AV→Option AV:=specP (X:=(List TNode) × Int × Unit) fun x=>laws_heldNodeS x.1 x.2.1
theorem C45_eq {a_ k_} {y} (h:laws_heldNodeS a_ k_=some y):C45 [av .shr a_,av .shr k_]=some (Res.res y):=zaf (x:=(a_,k_,())) h
def g45:Cfg:={ P:=Try.prog,take:=[],keep:=[((45,2),{ hd:=[0,1,5],bx:=[],ex:=[1],rt:=[4] })],gho:=[],ctx:=[(46,C46)] }
@[simp] theorem g45_s:type_of% (cfg_s (g:=g45) rfl):=cfg_s rfl
theorem w45 {a_ k_} {y} (hp:laws_heldNodeS a_ k_=some y):∃ m,callo g45 0 45 [av .shr a_,av .shr k_] mem0=some (Res.res y,m):=by
 refine st0 [.tmp 4] Try.func45 ?_
 unfold laws_heldNodeS at hp
 simp [Try.f45]
 obtain ⟨r_39,h_40,hp⟩:=zaa hp
 obtain ⟨I_3,I_3_⟩:=exV fun (s_1:Int × Int) (σ:St)=>(σ.env 0=uL .shr a_∧σ.env 1=uI s_1.1∧σ.env 5=uI s_1.2)∧σ.mem=mem0
 obtain ⟨X_4,X_4_⟩:=exV fun (r_39:(Int) ⊕ (Int)) (out:Out)=>Sum.elim (fun r_39=>∃ σ:St,out=.ret σ∧σ.env 4=uI r_39∧σ.mem=mem0) (fun r_39=>∃ σ:St,out=.exit 0 σ∧σ.env 1=uI r_39∧σ.mem=mem0) r_39
 refine loopP ({ hd:=[0,1,5],bx:=[],ex:=[1],rt:=[4] }) I_3 X_4 h_40 (by exact rfl) ?_ ?_ ?_
 ·rw [I_3_]
  exact ⟨by simp [zad,zab],by simp [zab]⟩
 ·intro s_1 σ_5 a_2 hI hp
  rw [I_3_] at hI
  obtain ⟨q_7,q_6⟩:=hI
  try simp [q_7,q_6]
  rcases zae hp with ⟨h_8,hp⟩|⟨h_8,hp⟩
  ·try simp at h_8
   obtain ⟨e_9,h_10,hp⟩:=zaa hp
   have b_11:=at_lo h_10
   have b_12:=at_hi h_10
   try simp at b_11 b_12
   have c_13:=seg_at' h_10 0 1 (by decide) (ds:=[.sl e_9.vars.length (encL e_9.vars)]) rfl
   try simp at c_13
   obtain ⟨y_14,h_15,hp⟩:=zaa hp
   have c_16:=C46_eq h_15
   simp at c_16
   try simp [q_7,q_6,h_8,b_11,b_12,c_13,c_16]
   rcases zae hp with ⟨h_17,hp⟩|⟨h_17,hp⟩
   ·try simp at h_17
    cases hp
    try simp [q_7,q_6,h_8,h_17]
    refine goal_outR ?_
    rw [X_4_]
    exact ⟨_,rfl,by simp [zad,zab,q_7,q_6,h_8,h_17],by simp [zab,q_7,q_6,h_8,h_17]⟩
   ·try simp at h_17
    obtain ⟨e_18,h_19,hp⟩:=zaa hp
    cases Option.some.inj (h_10.symm.trans h_19)
    have b_20:=at_lo h_10
    have b_21:=at_hi h_10
    try simp at b_20 b_21
    have c_22:=seg_at' h_10 1 1 (by decide) (ds:=[.sl e_9.reach.length (encL e_9.reach)]) rfl
    try simp at c_22
    obtain ⟨y_23,h_24,hp⟩:=zaa hp
    have c_25:=C46_eq h_24
    simp at c_25
    try simp [q_7,q_6,h_8,h_17,b_20,b_21,c_22,c_25]
    rcases zae hp with ⟨h_26,hp⟩|⟨h_26,hp⟩
    ·try simp at h_26
     cases hp
     try simp [q_7,q_6,h_8,h_17,h_26]
     refine goal_outR ?_
     rw [X_4_]
     exact ⟨_,rfl,by simp [zad,zab,q_7,q_6,h_8,h_17,h_26],by simp [zab,q_7,q_6,h_8,h_17,h_26]⟩
    ·try simp at h_26
     obtain ⟨e_27,h_28,hp⟩:=zaa hp
     cases Option.some.inj (h_10.symm.trans h_28)
     have b_29:=at_lo h_10
     have b_30:=at_hi h_10
     try simp at b_29 b_30
     have c_31:=seg_at' h_10 2 1 (by decide) (ds:=[.sc (.int .i64 e_9.shared)]) rfl
     try simp at c_31
     try simp [q_7,q_6,h_8,h_17,h_26,b_29,b_30,c_31]
     rcases zae hp with ⟨h_32,hp⟩|⟨h_32,hp⟩
     ·try simp at h_32
      cases hp
      try simp [q_7,q_6,h_8,h_17,h_26,h_32]
      refine goal_outR ?_
      rw [X_4_]
      exact ⟨_,rfl,by simp [zad,zab,q_7,q_6,h_8,h_17,h_26,h_32],by simp [zab,q_7,q_6,h_8,h_17,h_26,h_32]⟩
     ·try simp at h_32
      obtain ⟨e_33,h_34,hp⟩:=zaa hp
      cases Option.some.inj (h_10.symm.trans h_34)
      have b_35:=at_lo h_10
      have b_36:=at_hi h_10
      try simp at b_35 b_36
      have c_37:=seg_at' h_10 3 1 (by decide) (ds:=[.sc (.int .i64 e_9.many)]) rfl
      try simp at c_37
      try simp [q_7,q_6,h_8,h_17,h_26,h_32,b_35,b_36,c_37]
      rcases zae hp with ⟨h_38,hp⟩|⟨h_38,hp⟩
      ·try simp at h_38
       cases hp
       try simp [q_7,q_6,h_8,h_17,h_26,h_32,h_38]
       refine goal_outR ?_
       rw [X_4_]
       exact ⟨_,rfl,by simp [zad,zab,q_7,q_6,h_8,h_17,h_26,h_32,h_38],by simp [zab,q_7,q_6,h_8,h_17,h_26,h_32,h_38]⟩
      ·try simp at h_38
       cases hp
       try simp [q_7,q_6,h_8,h_17,h_26,h_32,h_38]
       refine zaj ?_
       rw [I_3_]
       exact ⟨by simp [zad,zab,q_7,q_6,h_8,h_17,h_26,h_32,h_38],by simp [zab,q_7,q_6,h_8,h_17,h_26,h_32,h_38]⟩
  ·try simp at h_8
   cases hp
   try simp [q_7,q_6,h_8]
   refine goal_outX ?_
   rw [X_4_]
   exact ⟨_,rfl,by simp [zad,zab,q_7,q_6,h_8],by simp [zab,q_7,q_6,h_8]⟩
 ·intro out hX
  rw [X_4_] at hX
  rcases r_39 with r_39 | r_39
  ·simp only [Sum.elim_inl,Sum.elim_inr] at hX hp
   obtain ⟨σ_41,rfl,q_43,q_42⟩:=hX
   cases hp
   simp [Goal,FnEnd,q_43,q_42]
  ·simp only [Sum.elim_inl,Sum.elim_inr] at hX hp
   obtain ⟨σ_44,rfl,q_46,q_45⟩:=hX
   cases hp
   simp [Goal,FnEnd,q_46,q_45]
theorem pc45:PC Try.prog 45 C45:=pc_of (g:=g45) (zag _ g45_s.2.1 ⟨pc46,trivial⟩) (ent Try.func45) fun x y h=>w45 h

def C14:List AV→Option AV:=specP (X:=TStructure × Int × Unit) fun x=>laws_heldStructure x.1 x.2.1
theorem C14_eq {a_ k_} {y} (h:laws_heldStructure a_ k_=some y):C14 [av .shr a_,av .shr k_]=some (Res.res y):=zaf (x:=(a_,k_,())) h
def g14:Cfg:={ P:=Try.prog,take:=[],keep:=[],gho:=[],ctx:=[(45,C45),(46,C46)] }
@[simp] theorem g14_s:type_of% (cfg_s (g:=g14) rfl):=cfg_s rfl
theorem w14 {a_ k_} {y} (hp:laws_heldStructure a_ k_=some y):∃ m,callo g14 0 14 [av .shr a_,av .shr k_] mem0=some (Res.res y,m):=by
 refine st0 [.tmp 4] Try.func14 ?_
 unfold laws_heldStructure at hp
 obtain ⟨y_1,h_2,hp⟩:=zaa hp
 have c_3:=C45_eq h_2
 simp at c_3
 simp [Try.f14,c_3]
 rcases zae hp with ⟨h_4,hp⟩|⟨h_4,hp⟩
 ·try simp at h_4
  cases hp
  simp [Goal,FnEnd,h_4]
 ·try simp at h_4
  obtain ⟨y_5,h_6,hp⟩:=zaa hp
  have c_7:=C46_eq h_6
  simp at c_7
  try simp [h_4,c_7]
  rcases zae hp with ⟨h_8,hp⟩|⟨h_8,hp⟩
  ·try simp at h_8
   cases hp
   simp [Goal,FnEnd,h_4,h_8]
  ·try simp at h_8
   cases hp
   simp [Goal,FnEnd,h_4,h_8]
theorem pc14:PC Try.prog 14 C14:=pc_of (g:=g14) (zag _ g14_s.2.1 ⟨pc45,pc46,trivial⟩) (ent Try.func14) fun x y h=>w14 h

def g4:Cfg:={ P:=Try.prog,take:=[],keep:=[((43,2),rowKp),((44,2),rowKp)],gho:=[((4,13),[.many (thawBox 1 5)]),((4,2000013),[.many (frzBox 1 5)]),((4,17),[.many (thawBox 1 6)]),((4,2000017),[.many (frzBox 1 6)])],ctx:=[(6,C6),(8,C8),(10,C10),(11,C11),(12,C12),(14,C14)] }
@[simp] theorem g4_s:type_of% (cfg_s (g:=g4) rfl):=cfg_s rfl
theorem w4 {aS} {y} (hp:laws_FnExactBlur aS=some y):∃ m,callo g4 0 4 [av .shr aS] mem0=some (Res.res y,m):=by
 have G_13:G13 g4:=⟨rfl,by kernel_rfl,rfl,fun t=>by simp,noAway (fun t=>by simp) (by simp) (fun t=>by simp),by simp [lookN],fun i=>by simp [lookK],by simp [g4,lookK],by simp⟩
 have G_43:G43 g4:=⟨rfl,by kernel_rfl,rfl,fun t=>by simp,noAway (fun t=>by simp) (by simp) (fun t=>by simp),by simp [lookN],fun i=>by simp [lookK],by simp [g4,lookK],by simp⟩
 have G_44:G44 g4:=⟨rfl,by kernel_rfl,rfl,fun t=>by simp,noAway (fun t=>by simp) (by simp) (fun t=>by simp),by simp [lookN],fun i=>by simp [lookK],by simp [g4,lookK],by simp⟩
 refine st0 [.tmp 2] Try.func4 ?_
 unfold laws_FnExactBlur at hp
 obtain ⟨y_1,h_2,hp⟩:=zaa hp
 have c_3:=C6_eq h_2
 simp at c_3
 simp [Try.f4,c_3]
 rcases zae hp with ⟨h_4,hp⟩|⟨h_4,hp⟩
 ·try simp at h_4
  cases hp
  simp [Goal,FnEnd,h_4]
 ·try simp at h_4
  obtain ⟨y_5,h_6,hp⟩:=zaa hp
  have c_7:=C8_eq h_6
  simp at c_7
  obtain ⟨y_8,h_9,hp⟩:=zaa hp
  have c_10:=C11_eq h_9
  simp at c_10
  obtain ⟨y_11,h_12,hp⟩:=zaa hp
  cases Option.some.inj (h_6.symm.trans h_12)
  obtain ⟨y_13,h_14,hp⟩:=zaa hp
  have c_15:=C12_eq h_14
  simp at c_15
  obtain ⟨y_16,h_17,hp⟩:=zaa hp
  have c_18:=C10_eq h_17
  simp at c_18
  try simp [h_4,c_7,c_10,c_7,c_15,c_18]
  rcases zae hp with ⟨h_19,hp⟩|⟨h_19,hp⟩
  ·try simp at h_19
   obtain ⟨y_20,h_21,hp⟩:=zaa hp
   cases Option.some.inj (h_6.symm.trans h_21)
   obtain ⟨y_22,h_23,hp⟩:=zaa hp
   have c_24:=C10_eq h_23
   simp at c_24
   try simp [h_4,h_19,c_7,c_24]
   rcases zae hp with ⟨h_25,hp⟩|⟨h_25,hp⟩
   ·try simp at h_25
    obtain ⟨r_26,h_27,hp⟩:=zaa hp
    obtain ⟨lg_28,e_29⟩:=markO_eq h_27
    have mk_30:=mk13 G_13 G_43 G_44 y_5 1 lg_28
    rw [e_29] at mk_30
    try simp [h_4,h_19,h_25]
    refine goal_markB 5 5 7 32 33 34 13 mk_30 (show ti g4.P 30=some _ from ti_30) rfl rfl (by decide) (by simp [h_4,h_19,h_25]) (by simp [h_4,h_19,h_25]) (by simp [h_4,h_19,h_25]) (WfE.wfE _) (WfE.wfE _) (fun key hkey=>by simp [mem0,key_low hkey 1 1 (by decide),key_low hkey 1 4 (by decide),key_low hkey 1 5 (by decide),key_low hkey 1 6 (by decide),h_4,h_19,h_25]) (by simp) (by simp) (by simp) rfl (by decide) fun σ_31 qq_32 hq_33 hx_34 hk_35 he_36 hd_37 hm_38=>?_
    obtain ⟨q_39,q_40,q_41,q_42,q_43,q_44,q_45,q_46⟩:σ_31.env 1=uP (1,1)∧σ_31.env 4=uP (1,4)∧σ_31.env 6=uP (1,6)∧σ_31.env 7=uI r_26.2∧σ_31.mem (1,1)=some [cL .shr aS.nodes,cL .shr aS.next]∧σ_31.mem (1,4)=some [cL .own y_8.nodes,cL .own y_8.next]∧σ_31.mem (1,5)=some [cL .own r_26.1.nodes,cL .own r_26.1.next]∧σ_31.mem (1,6)=some [cL .own y_13.nodes,cL .own y_13.next]:=by refine ⟨(he_36 1 (by decide) (by decide) (by decide) (by decide)).trans ?_,(he_36 4 (by decide) (by decide) (by decide) (by decide)).trans ?_,(he_36 6 (by decide) (by decide) (by decide) (by decide)).trans ?_,hk_35,(hm_38 (1,1) (by decide) (by decide) (by decide)).trans ?_,(hm_38 (1,4) (by decide) (by decide) (by decide)).trans ?_,hx_34.trans (by simp),(hm_38 (1,6) (by decide) (by decide) (by decide)).trans ?_⟩ <;> simp [h_4,h_19,h_25,hq_33 (1,1) (by decide) (by decide),hq_33 (1,4) (by decide) (by decide),hq_33 (1,5) (by decide) (by decide),hq_33 (1,6) (by decide) (by decide)]
    have hn_47:NoBox [(1,1),(1,4),(1,5),(1,6)] σ_31.mem:=by
     intro key hk
     by_cases hl:1 < key.1∨bigK≤key.2
     ·exact hd_37 key hl
     ·rw [hm_38 key (by rintro rfl;simp at hk) (by omega) (by omega)]
      simp at hk
      simp [mem0,hk,h_4,h_19,h_25]
    try simp [h_4,h_19,h_25,q_39,q_40,q_41,q_42,q_43,q_44,q_45,q_46]
    rcases zae hp with ⟨h_48,hp⟩|⟨h_48,hp⟩
    ·try simp at h_48
     cases hp
     simp [Goal,FnEnd,h_4,h_19,h_25,q_39,q_40,q_41,q_42,q_43,q_44,q_45,q_46,h_48]
    ·try simp at h_48
     obtain ⟨y_49,h_50,hp⟩:=zaa hp
     have c_51:=C10_eq h_50
     simp at c_51
     try simp [h_4,h_19,h_25,q_39,q_40,q_41,q_42,q_43,q_44,q_45,q_46,h_48,c_51]
     rcases zae hp with ⟨h_52,hp⟩|⟨h_52,hp⟩
     ·try simp at h_52
      obtain ⟨r_53,h_54,hp⟩:=zaa hp
      obtain ⟨lg_55,e_56⟩:=markO_eq h_54
      have mk_57:=mk13 G_13 G_43 G_44 y_13 1 lg_55
      rw [e_56] at mk_57
      try simp [h_4,h_19,h_25,q_39,q_40,q_41,q_42,q_43,q_44,q_45,q_46,h_48,h_52]
      refine goal_markB 6 6 8 43 44 45 13 mk_57 (show ti g4.P 30=some _ from ti_30) rfl rfl (by decide) (by simp [h_4,h_19,h_25,q_39,q_40,q_41,q_42,q_43,q_44,q_45,q_46,h_48,h_52]) (by simp [h_4,h_19,h_25,q_39,q_40,q_41,q_42,q_43,q_44,q_45,q_46,h_48,h_52]) (by simp [h_4,h_19,h_25,q_39,q_40,q_41,q_42,q_43,q_44,q_45,q_46,h_48,h_52]) (WfE.wfE _) (WfE.wfE _) (fun key hkey=>by simp [mem0,key_low hkey 1 1 (by decide),key_low hkey 1 4 (by decide),key_low hkey 1 5 (by decide),key_low hkey 1 6 (by decide),h_4,h_19,h_25,q_39,q_40,q_41,q_42,q_43,q_44,q_45,q_46,h_48,h_52,hn_47 key (by simp [key_low hkey 1 1 (by decide),key_low hkey 1 4 (by decide),key_low hkey 1 5 (by decide),key_low hkey 1 6 (by decide)])]) (by simp) (by simp) (by simp) rfl (by decide) fun σ_58 qq_59 hq_60 hx_61 hk_62 he_63 hd_64 hm_65=>?_
      obtain ⟨q_66,q_67,q_68,q_69,q_70,q_71,q_72,q_73⟩:σ_58.env 1=uP (1,1)∧σ_58.env 4=uP (1,4)∧σ_58.env 6=uP (1,6)∧σ_58.env 8=uI r_53.2∧σ_58.mem (1,1)=some [cL .shr aS.nodes,cL .shr aS.next]∧σ_58.mem (1,4)=some [cL .own y_8.nodes,cL .own y_8.next]∧σ_58.mem (1,5)=some [cL .own r_26.1.nodes,cL .own r_26.1.next]∧σ_58.mem (1,6)=some [cL .own r_53.1.nodes,cL .own r_53.1.next]:=by refine ⟨(he_63 1 (by decide) (by decide) (by decide) (by decide)).trans ?_,(he_63 4 (by decide) (by decide) (by decide) (by decide)).trans ?_,(he_63 6 (by decide) (by decide) (by decide) (by decide)).trans ?_,hk_62,(hm_65 (1,1) (by decide) (by decide) (by decide)).trans ?_,(hm_65 (1,4) (by decide) (by decide) (by decide)).trans ?_,(hm_65 (1,5) (by decide) (by decide) (by decide)).trans ?_,hx_61.trans (by simp)⟩ <;> simp [h_4,h_19,h_25,q_39,q_40,q_41,q_42,q_43,q_44,q_45,q_46,h_48,h_52,hq_60 (1,1) (by decide) (by decide),hq_60 (1,4) (by decide) (by decide),hq_60 (1,5) (by decide) (by decide),hq_60 (1,6) (by decide) (by decide)]
      have hn_74:NoBox [(1,1),(1,4),(1,5),(1,6)] σ_58.mem:=by
       intro key hk
       by_cases hl:1 < key.1∨bigK≤key.2
       ·exact hd_64 key hl
       ·rw [hm_65 key (by rintro rfl;simp at hk) (by omega) (by omega)]
        simp at hk
        simp [mem0,hk,h_4,h_19,h_25,q_39,q_40,q_41,q_42,q_43,q_44,q_45,q_46,h_48,h_52,hn_47 key (by simp [hk])]
      obtain ⟨y_75,h_76,hp⟩:=zaa hp
      have c_77:=C14_eq h_76
      simp at c_77
      try simp [h_4,h_19,h_25,h_48,h_52,q_66,q_67,q_68,q_69,q_70,q_71,q_72,q_73,c_77]
      rcases zae hp with ⟨h_78,hp⟩|⟨h_78,hp⟩
      ·try simp at h_78
       cases hp
       simp [Goal,FnEnd,h_4,h_19,h_25,h_48,h_52,q_66,q_67,q_68,q_69,q_70,q_71,q_72,q_73,h_78]
      ·try simp at h_78
       try simp [h_4,h_19,h_25,h_48,h_52,q_66,q_67,q_68,q_69,q_70,q_71,q_72,q_73,h_78]
       rcases zae hp with ⟨h_79,hp⟩|⟨h_79,hp⟩
       ·try simp at h_79
        cases hp
        simp [Goal,FnEnd,h_4,h_19,h_25,h_48,h_52,q_66,q_67,q_68,q_69,q_70,q_71,q_72,q_73,h_78,h_79]
       ·try simp at h_79
        obtain ⟨y_80,h_81,hp⟩:=zaa hp
        have c_82:=C8_eq h_81
        simp at c_82
        obtain ⟨y_83,h_84,hp⟩:=zaa hp
        have c_85:=C12_eq h_84
        simp at c_85
        have n_86:=hn_74 (1,10) (by simp)
        obtain ⟨y_87,h_88,hp⟩:=zaa hp
        have c_89:=C10_eq h_88
        simp at c_89
        try simp [h_4,h_19,h_25,h_48,h_52,q_66,q_67,q_68,q_69,q_70,q_71,q_72,q_73,h_78,h_79,c_82,c_85,n_86,c_89]
        rcases zae hp with ⟨h_90,hp⟩|⟨h_90,hp⟩
        ·try simp at h_90
         obtain ⟨y_91,h_92,hp⟩:=zaa hp
         cases Option.some.inj (h_76.symm.trans h_92)
         cases hp
         simp [Goal,FnEnd,h_4,h_19,h_25,h_48,h_52,q_66,q_67,q_68,q_69,q_70,q_71,q_72,q_73,h_78,h_79,h_90,c_77]
        ·try simp at h_90
         cases hp
         simp [Goal,FnEnd,h_4,h_19,h_25,h_48,h_52,q_66,q_67,q_68,q_69,q_70,q_71,q_72,q_73,h_78,h_79,h_90]
     ·try simp at h_52
      cases hp
      simp [Goal,FnEnd,h_4,h_19,h_25,q_39,q_40,q_41,q_42,q_43,q_44,q_45,q_46,h_48,h_52]
   ·try simp at h_25
    cases hp
    simp [Goal,FnEnd,h_4,h_19,h_25]
  ·try simp at h_19
   cases hp
   simp [Goal,FnEnd,h_4,h_19]
def C50:List AV→Option AV:=specP (X:=(List Int) × (List Int) × Unit) fun x=>spec_l7Same x.1 x.2.1
def g50:Cfg:={ P:=Try.prog,take:=[],keep:=[((50,4),{ hd:=[0,1,5],bx:=[],ex:=[],rt:=[4] })],gho:=[],ctx:=[] }
@[simp] theorem g50_s:type_of% (cfg_s (g:=g50) rfl):=cfg_s rfl
def C51:List AV→Option AV:=specP (X:=TNode × TNode × Unit) fun x=>spec_l12SameNode x.1 x.2.1
def g51:Cfg:={ P:=Try.prog,take:=[],keep:=[],gho:=[],ctx:=[(50,C50)] }
@[simp] theorem g51_s:type_of% (cfg_s (g:=g51) rfl):=cfg_s rfl
def C23:List AV→Option AV:=specP (X:=TStructure × TStructure × Unit) fun x=>spec_EqualStructure x.1 x.2.1
def g23:Cfg:={ P:=Try.prog,take:=[],keep:=[((23,4),{ hd:=[2,3,5],bx:=[],ex:=[],rt:=[4] })],gho:=[],ctx:=[(50,C50),(51,C51)] }
@[simp] theorem g23_s:type_of% (cfg_s (g:=g23) rfl):=cfg_s rfl
def C7:List AV→Option AV:=specP (X:=TStructure × Unit) fun x=>spec_IsBlurred x.1
theorem C7_eq {s} {y} (h:spec_IsBlurred s=some y):C7 [av .shr s]=some (Res.res y):=zaf (x:=(s,())) h
def g7:Cfg:={ P:=Try.prog,take:=[],keep:=[],gho:=[],ctx:=[(11,C11),(23,C23)] }
@[simp] theorem g7_s:type_of% (cfg_s (g:=g7) rfl):=cfg_s rfl
def C53:List AV→Option AV:=specP (X:=(List Int) × (List Int) × Unit) fun x=>slices_Equal_int x.1 x.2.1
def g53:Cfg:={ P:=Try.prog,take:=[],keep:=[((53,4),{ hd:=[0,1,12,13],bx:=[],ex:=[],rt:=[4] })],gho:=[],ctx:=[] }
@[simp] theorem g53_s:type_of% (cfg_s (g:=g53) rfl):=cfg_s rfl
def C55:List AV→Option AV:=specP (X:=TNode × TNode × Unit) fun x=>impl_EqualStructure_1 x.1 x.2.1
def g55:Cfg:={ P:=Try.prog,take:=[],keep:=[],gho:=[],ctx:=[(53,C53)] }
@[simp] theorem g55_s:type_of% (cfg_s (g:=g55) rfl):=cfg_s rfl
def C26:List AV→Option AV:=specP (X:=TStructure × TStructure × Unit) fun x=>impl_EqualStructure x.1 x.2.1
def g26:Cfg:={ P:=Try.prog,take:=[],keep:=[((54,4),{ hd:=[1,2,15,16,17],bx:=[8,9],ex:=[],rt:=[6] })],gho:=[],ctx:=[(53,C53),(55,C55)] }
@[simp] theorem g26_s:type_of% (cfg_s (g:=g26) rfl):=cfg_s rfl
def C9:List AV→Option AV:=specP (X:=TStructure × Unit) fun x=>impl_IsBlurred x.1
theorem C9_eq {s} {y} (h:impl_IsBlurred s=some y):C9 [av .shr s]=some (Res.res y):=zaf (x:=(s,())) h
def g9:Cfg:={ P:=Try.prog,take:=[],keep:=[],gho:=[],ctx:=[(12,C12),(26,C26)] }
@[simp] theorem g9_s:type_of% (cfg_s (g:=g9) rfl):=cfg_s rfl
def g3:Cfg:={ P:=Try.prog,take:=[],keep:=[],gho:=[],ctx:=[(6,C6),(7,C7),(8,C8),(9,C9),(10,C10)] }
@[simp] theorem g3_s:type_of% (cfg_s (g:=g3) rfl):=cfg_s rfl
theorem w3 {aS} {y} (hp:laws_FnExactIsBlurred aS=some y):∃ m,callo g3 0 3 [av .shr aS] mem0=some (Res.res y,m):=by
 refine st0 [.tmp 2] Try.func3 ?_
 unfold laws_FnExactIsBlurred at hp
 obtain ⟨y_1,h_2,hp⟩:=zaa hp
 have c_3:=C6_eq h_2
 simp at c_3
 simp [Try.f3,c_3]
 rcases zae hp with ⟨h_4,hp⟩|⟨h_4,hp⟩
 ·try simp at h_4
  cases hp
  simp [Goal,FnEnd,h_4]
 ·try simp at h_4
  obtain ⟨y_5,h_6,hp⟩:=zaa hp
  have c_7:=C8_eq h_6
  simp at c_7
  obtain ⟨y_8,h_9,hp⟩:=zaa hp
  have c_10:=C7_eq h_9
  simp at c_10
  obtain ⟨y_11,h_12,hp⟩:=zaa hp
  cases Option.some.inj (h_6.symm.trans h_12)
  obtain ⟨y_13,h_14,hp⟩:=zaa hp
  have c_15:=C9_eq h_14
  simp at c_15
  try simp [h_4,c_7,c_10,c_7,c_15]
  rcases zae hp with ⟨h_16,hp⟩|⟨h_16,hp⟩
  ·try simp at h_16
   cases hp
   simp [Goal,FnEnd,h_4,h_16]
  ·try simp at h_16
   obtain ⟨y_17,h_18,hp⟩:=zaa hp
   cases Option.some.inj (h_6.symm.trans h_18)
   obtain ⟨y_19,h_20,hp⟩:=zaa hp
   have c_21:=C10_eq h_20
   simp at c_21
   try simp [h_4,h_16,c_7,c_21]
   rcases zae hp with ⟨h_22,hp⟩|⟨h_22,hp⟩
   ·try simp at h_22
    cases hp
    simp [Goal,FnEnd,h_4,h_16,h_22]
   ·try simp at h_22
    cases hp
    simp [Goal,FnEnd,h_4,h_16,h_22]
def C15:List AV→Option AV:=specP (X:=THeap × Int × Unit) fun x=>laws_szHeap x.1 x.2.1
theorem C15_eq {a_ left} {y} (h:laws_szHeap a_ left=some y):C15 [av .shr a_,av .shr left]=some (Res.res y):=zaf (x:=(a_,left,())) h
def g15:Cfg:={ P:=Try.prog,take:=[],keep:=[],gho:=[],ctx:=[(22,C22)] }
@[simp] theorem g15_s:type_of% (cfg_s (g:=g15) rfl):=cfg_s rfl
theorem w15 {a_ left} {y} (hp:laws_szHeap a_ left=some y):∃ m,callo g15 0 15 [av .shr a_,av .shr left] mem0=some (Res.res y,m):=by
 refine st0 [.tmp 4] Try.func15 ?_
 unfold laws_szHeap at hp
 obtain ⟨y_1,h_2,hp⟩:=zaa hp
 have c_3:=C22_eq h_2
 simp at c_3
 simp [Try.f15,c_3]
 rcases zae hp with ⟨h_4,hp⟩|⟨h_4,hp⟩
 ·try simp at h_4
  cases hp
  simp [Goal,FnEnd,h_4]
 ·try simp at h_4
  obtain ⟨y_5,h_6,hp⟩:=zaa hp
  have c_7:=C22_eq h_6
  simp at c_7
  try simp [h_4,c_7]
  rcases zae hp with ⟨h_8,hp⟩|⟨h_8,hp⟩
  ·try simp at h_8
   cases hp
   simp [Goal,FnEnd,h_4,h_8]
  ·try simp at h_8
   cases hp
   simp [Goal,FnEnd,h_4,h_8]
theorem pc15:PC Try.prog 15 C15:=pc_of (g:=g15) (zag _ g15_s.2.1 ⟨pc22,trivial⟩) (ent Try.func15) fun x y h=>w15 h

def C17:List AV→Option AV:=specP (X:=THeap × Unit) fun x=>laws_toHeap x.1
theorem C17_eq {a_} {y} (h:laws_toHeap a_=some y):C17 [av .shr a_]=some (Res.res y):=zaf (x:=(a_,())) h
def g17:Cfg:={ P:=Try.prog,take:=[(17,12)],keep:=[],gho:=[],ctx:=[(25,C25)] }
@[simp] theorem g17_s:type_of% (cfg_s (g:=g17) rfl):=cfg_s rfl
theorem w17 {a_} {y} (hp:laws_toHeap a_=some y):∃ m,callo g17 0 17 [av .shr a_] mem0=some (Res.res y,m):=by
 refine st0 [.cell 2 40] Try.func17 ?_
 unfold laws_toHeap at hp
 obtain ⟨y_1,h_2,hp⟩:=zaa hp
 have c_3:=C25_eq h_2
 simp at c_3
 obtain ⟨y_4,h_5,hp⟩:=zaa hp
 have c_6:=C25_eq h_5
 simp at c_6
 cases hp
 simp [Try.f17,Goal,FnEnd,retR,rsrc,RSrc.val,nodupR,nodup,tupPart,c_3,c_6]
theorem pc17:PC Try.prog 17 C17:=pc_of (g:=g17) (zag _ g17_s.2.1 ⟨pc25,trivial⟩) (ent Try.func17) fun x y h=>w17 h
end Go.Proofs

