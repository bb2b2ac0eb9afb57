import Derived.Test.YtmmliafoddlgfaaGreatEvA17
set_option linter.unusedSimpArgs false
set_option linter.unusedVariables false
set_option linter.unnecessarySimpa false
noncomputable section
set_option maxHeartbeats 4000000
set_option maxRecDepth 100000
namespace Go.Proofs
open Go.Ev
abbrev G147 (g:Cfg):Prop:=Has Tryz.prog g 147 Tryz.f147 [] [(2,{ hd:=[0,1,7,8],bx:=[],ex:=[],rt:=[4] })] [] []
theorem wI147 {g:Cfg} (G:G147 g) {d:Nat} {mem:Mem} (hT:Tight d mem)  {s:(List THeap)} {f_:(THeap→Option (Bool))} {m_0:Md} (hm_0:LentM m_0) {fk_f_:Nat} {caps_f_:List (Key × Nat)} (hl_f_:∀ c∈caps_f_,c.1.1≤d) (hc_f_:Clo g d mem fk_f_ caps_f_ fun x:THeap × Unit=>f_ x.1) {y} (hp:slices_IndexFunc_Heap s f_=some y):callo g d 147 [av m_0 s,.one (.fn fk_f_ caps_f_)] mem=some (Res.res y,mem):=by
 have gP:=G.P;have gt:=G.tk;have gr:=G.ro;have gg:=G.gh
 have k_2:=G.kp (2,{ hd:=[0,1,7,8],bx:=[],ex:=[],rt:=[4] }) (by simp)
 have hT2:memKill (fun k=>decide (d < k.1)) mem=mem:=hT
 refine start_in (Tryz.f147.body.getD .skip) [.tmp 4] G Tryz.func147 (by kernel_rfl) (by simp [Tryz.ntmps147]) rfl ?_
 unfold slices_IndexFunc_Heap at hp
 simp [Tryz.f147,gP,gt,gr,gg,hm_0.copy,hm_0.elem]
 obtain ⟨r_18,h_19,hp⟩:=zab hp
 obtain ⟨I_3,I_3_⟩:=exV fun (s_1:Int) (σ:St)=>(σ.env 0=uL m_0 s∧σ.env 7=uI (s.length:Int)∧σ.env 8=uI s_1)∧σ.env 1=.one (.fn fk_f_ caps_f_)∧σ.mem=mem
 obtain ⟨X_4,X_4_⟩:=exV fun (r_18:(Int) ⊕ (Unit)) (out:Out)=>Sum.elim (fun r_18=>∃ σ:St,out=.ret σ∧σ.env 4=uI r_18∧σ.mem=mem) (fun r_18=>∃ σ:St,out=.exit 0 σ∧σ.mem=mem) r_18
 refine loopP ({ hd:=[0,1,7,8],bx:=[],ex:=[],rt:=[4] }) I_3 X_4 h_19 (by exact k_2) ?_ ?_ ?_
 ·rw [I_3_]
  exact ⟨by simp [zac,zaa,gP,gt,gr,gg,hm_0.copy,hm_0.elem],by simp [zac,gP,gt,gr,gg,hm_0.copy,hm_0.elem] <;> first | (intro x x1 x2 hx;have h0:=hl_f_ _ hx;simp at h0;omega) | (intro x hx;have h0:=hl_f_ _ hx;simp at h0;omega),by simp [zaa,gP,gt,gr,gg,hm_0.copy,hm_0.elem]⟩
 ·intro s_1 σ_5 a_2 hI hp
  rw [I_3_] at hI
  obtain ⟨q_8,q_6,q_7⟩:=hI
  try simp [gP,gt,gr,gg,hm_0.copy,hm_0.elem,q_8,q_6,q_7]
  rcases zad hp with ⟨h_9,hp⟩|⟨h_9,hp⟩
  ·try simp at h_9
   obtain ⟨e_10,h_11,hp⟩:=zab hp
   have b_12:=at_lo h_11
   have b_13:=at_hi h_11
   try simp at b_12 b_13
   have c_14:=seg_at' h_11 0 2 (by decide) (ds:=[.sl e_10.vars.length (encL e_10.vars),.sl e_10.next.length (encL e_10.next)]) rfl
   try simp at c_14
   obtain ⟨y_15,h_16,hp⟩:=zab hp
   try simp [gP,gt,gr,gg,hm_0.copy,hm_0.elem,q_8,q_6,q_7,h_9,b_12,b_13,c_14]
   refine goal_call ([av m_0 e_10] ++ capsAV caps_f_) (Res.res y_15) (by simp [capsAV,gP,gt,gr,gg,hm_0.copy,hm_0.elem,q_8,q_6,q_7,h_9]) (hc_f_ _ _ _ (e_10,()) _ (Nat.le_succ d) (fun k hk=>by first | rfl | rw [q_7]) (by repeat (first | exact zag _ | exact hT.up | exact hT | (simp only [q_8,q_6,q_7];done) | refine Tight.upd ?_ (by simp) (by simp) | refine Tight.killB ?_ | refine zak ?_)) ⟨_,_,hm_0,rfl,rfl⟩ h_16) ?_
   try simp [gP,gt,gr,gg,hm_0.copy,hm_0.elem,q_8,q_6,q_7,h_9]
   rcases zad hp with ⟨h_17,hp⟩|⟨h_17,hp⟩
   ·try simp at h_17
    cases hp
    try simp [gP,gt,gr,gg,hm_0.copy,hm_0.elem,q_8,q_6,q_7,h_9,h_17]
    refine zao ?_
    rw [X_4_]
    exact ⟨_,rfl,by simp [zac,zaa,gP,gt,gr,gg,hm_0.copy,hm_0.elem,q_8,q_6,q_7,h_9,h_17],by simp [zaa,gP,gt,gr,gg,hm_0.copy,hm_0.elem,q_8,q_6,q_7,h_9,h_17]⟩
   ·try simp at h_17
    cases hp
    try simp [gP,gt,gr,gg,hm_0.copy,hm_0.elem,q_8,q_6,q_7,h_9,h_17]
    refine zah ?_
    rw [I_3_]
    exact ⟨by simp [zac,zaa,gP,gt,gr,gg,hm_0.copy,hm_0.elem,q_8,q_6,q_7,h_9,h_17],by simp [zac,gP,gt,gr,gg,hm_0.copy,hm_0.elem,q_8,q_6,q_7,h_9,h_17] <;> first | (intro x x1 x2 hx;have h0:=hl_f_ _ hx;simp at h0;omega) | (intro x hx;have h0:=hl_f_ _ hx;simp at h0;omega),by simp [zaa,gP,gt,gr,gg,hm_0.copy,hm_0.elem,q_8,q_6,q_7,h_9,h_17]⟩
  ·try simp at h_9
   cases hp
   try simp [gP,gt,gr,gg,hm_0.copy,hm_0.elem,q_8,q_6,q_7,h_9]
   refine zal ?_
   rw [X_4_]
   exact ⟨_,rfl,by simp [zaa,gP,gt,gr,gg,hm_0.copy,hm_0.elem,q_8,q_6,q_7,h_9]⟩
 ·intro out hX
  rw [X_4_] at hX
  rcases r_18 with r_18 | r_18
  ·simp only [Sum.elim_inl,Sum.elim_inr] at hX hp
   obtain ⟨σ_20,rfl,q_22,q_21⟩:=hX
   cases hp
   simp [Goal,FnEndI,memKill_hi,gP,gt,gr,gg,hm_0.copy,hm_0.elem,q_22,q_21,hT2]
  ·simp only [Sum.elim_inl,Sum.elim_inr] at hX hp
   obtain ⟨σ_23,rfl,q_24⟩:=hX
   cases hp
   simp [Goal,FnEndI,memKill_hi,gP,gt,gr,gg,hm_0.copy,hm_0.elem,q_24,hT2]

abbrev G115 (g:Cfg):Prop:=Has Tryz.prog g 115 Tryz.f115 [] [] [] []
theorem wI115 {g:Cfg} (G:G115 g) (G_147:G147 g) {d:Nat} {mem:Mem} (hT:Tight d mem)  {s:(List THeap)} {f_:(THeap→Option (Bool))} {m_0:Md} (hm_0:LentM m_0) {fk_f_:Nat} {caps_f_:List (Key × Nat)} (hl_f_:∀ c∈caps_f_,c.1.1≤d) (hc_f_:Clo g d mem fk_f_ caps_f_ fun x:THeap × Unit=>f_ x.1) {y} (hp:slices_ContainsFunc_Heap s f_=some y):callo g d 115 [av m_0 s,.one (.fn fk_f_ caps_f_)] mem=some (Res.res y,mem):=by
 have gP:=G.P;have gt:=G.tk;have gr:=G.ro;have gg:=G.gh
 have i_147:=G_147.no
 have hT2:memKill (fun k=>decide (d < k.1)) mem=mem:=hT
 refine start_in (Tryz.f115.body.getD .skip) [.tmp 4] G Tryz.func115 (by kernel_rfl) (by simp [Tryz.ntmps115]) rfl ?_
 unfold slices_ContainsFunc_Heap at hp
 obtain ⟨y_1,h_2,hp⟩:=zab hp
 simp [Tryz.f115,gP,gt,gr,gg,i_147,hm_0.copy,hm_0.elem]
 refine goal_call [av m_0 s,.one (.fn fk_f_ caps_f_)] (Res.res y_1) (by simp [gP,gt,gr,gg,i_147,hm_0.copy,hm_0.elem]) (wI147 G_147 (by repeat (first | exact zag _ | exact hT.up | exact hT | (simp only [true_and];done) | refine Tight.upd ?_ (by simp) (by simp) | refine Tight.killB ?_ | refine zak ?_)) hm_0 (fun c hc=>Nat.le_succ_of_le (hl_f_ c hc)) (hc_f_.mono (Nat.le_succ d) (fun k hk=>rfl)) h_2) ?_
 cases hp
 simp [Goal,FnEndI,memKill_hi,gP,gt,gr,gg,i_147,hm_0.copy,hm_0.elem,hT2]

abbrev G116 (g:Cfg):Prop:=Has Tryz.prog g 116 Tryz.f116 [] [] [(54,C54)] []
theorem wI116 {g:Cfg} (G:G116 g) {d:Nat} {mem:Mem} (hT:Tight d mem) {K_1:Key} {h_:THeap} {c0:TProgram} {m_0:Md} (hm_0:LentM m_0) {mk_1:Md} (hk_1:K_1.1≤d) (hb_1:mem K_1=some [cL mk_1 c0.vars,cI c0.points,cL mk_1 c0.edges]) {y} (hp:impl_explore_1 h_ c0=some y):callo g d 116 [av m_0 h_,.one (.ptr K_1 0)] mem=some (Res.res y,mem):=by
 have gP:=G.P;have gt:=G.tk;have gr:=G.ro;have gg:=G.gh
 have c_54:=G.cs (54,C54) (by simp)
 have hT2:memKill (fun k=>decide (d < k.1)) mem=mem:=hT
 have hm0:∀ t,mem (d+1,t)=none:=fun t=>hT.none (by simp)
 have nk_1:∀ t,(K_1=(d+1,t))=False:=fun t=>by simp;intro h;rw [h] at hk_1;simp at hk_1;omega
 refine start_in (Tryz.f116.body.getD .skip) [.tmp 3] G Tryz.func116 (by kernel_rfl) (by simp [Tryz.ntmps116]) rfl ?_
 unfold impl_explore_1 at hp
 obtain ⟨y_1,h_2,hp⟩:=zab hp
 have c_3:=C54_eq h_2
 simp at c_3
 cases hp
 simp [Tryz.f116,Goal,FnEndI,memKill_hi,gP,gt,gr,gg,hm0,c_54,hm_0.copy,hm_0.elem,hb_1,nk_1,c_3,hT2]

abbrev G148 (g:Cfg):Prop:=Has Tryz.prog g 148 Tryz.f148 [] [(2,{ hd:=[0,1,7,8],bx:=[],ex:=[],rt:=[4] })] [] []
theorem wI148 {g:Cfg} (G:G148 g) {d:Nat} {mem:Mem} (hT:Tight d mem)  {s:(List TMetState)} {f_:(TMetState→Option (Bool))} {m_0:Md} (hm_0:LentM m_0) {fk_f_:Nat} {caps_f_:List (Key × Nat)} (hl_f_:∀ c∈caps_f_,c.1.1≤d) (hc_f_:Clo g d mem fk_f_ caps_f_ fun x:TMetState × Unit=>f_ x.1) {y} (hp:slices_IndexFunc_metState s f_=some y):callo g d 148 [av m_0 s,.one (.fn fk_f_ caps_f_)] mem=some (Res.res y,mem):=by
 have gP:=G.P;have gt:=G.tk;have gr:=G.ro;have gg:=G.gh
 have k_2:=G.kp (2,{ hd:=[0,1,7,8],bx:=[],ex:=[],rt:=[4] }) (by simp)
 have hT2:memKill (fun k=>decide (d < k.1)) mem=mem:=hT
 refine start_in (Tryz.f148.body.getD .skip) [.tmp 4] G Tryz.func148 (by kernel_rfl) (by simp [Tryz.ntmps148]) rfl ?_
 unfold slices_IndexFunc_metState at hp
 simp [Tryz.f148,gP,gt,gr,gg,hm_0.copy,hm_0.elem]
 obtain ⟨r_18,h_19,hp⟩:=zab hp
 obtain ⟨I_3,I_3_⟩:=exV fun (s_1:Int) (σ:St)=>(σ.env 0=uL m_0 s∧σ.env 7=uI (s.length:Int)∧σ.env 8=uI s_1)∧σ.env 1=.one (.fn fk_f_ caps_f_)∧σ.mem=mem
 obtain ⟨X_4,X_4_⟩:=exV fun (r_18:(Int) ⊕ (Unit)) (out:Out)=>Sum.elim (fun r_18=>∃ σ:St,out=.ret σ∧σ.env 4=uI r_18∧σ.mem=mem) (fun r_18=>∃ σ:St,out=.exit 0 σ∧σ.mem=mem) r_18
 refine loopP ({ hd:=[0,1,7,8],bx:=[],ex:=[],rt:=[4] }) I_3 X_4 h_19 (by exact k_2) ?_ ?_ ?_
 ·rw [I_3_]
  exact ⟨by simp [zac,zaa,gP,gt,gr,gg,hm_0.copy,hm_0.elem],by simp [zac,gP,gt,gr,gg,hm_0.copy,hm_0.elem] <;> first | (intro x x1 x2 hx;have h0:=hl_f_ _ hx;simp at h0;omega) | (intro x hx;have h0:=hl_f_ _ hx;simp at h0;omega),by simp [zaa,gP,gt,gr,gg,hm_0.copy,hm_0.elem]⟩
 ·intro s_1 σ_5 a_2 hI hp
  rw [I_3_] at hI
  obtain ⟨q_8,q_6,q_7⟩:=hI
  try simp [gP,gt,gr,gg,hm_0.copy,hm_0.elem,q_8,q_6,q_7]
  rcases zad hp with ⟨h_9,hp⟩|⟨h_9,hp⟩
  ·try simp at h_9
   obtain ⟨e_10,h_11,hp⟩:=zab hp
   have b_12:=at_lo h_11
   have b_13:=at_hi h_11
   try simp at b_12 b_13
   have c_14:=seg_at' h_11 0 5 (by decide) (ds:=[.sc (.int .i64 e_10.state.point),.sl e_10.state.heap.vars.length (encL e_10.state.heap.vars),.sl e_10.state.heap.next.length (encL e_10.state.heap.next),.sc (.int .i64 e_10.from_),.sc (.int .i64 e_10.edge)]) rfl
   try simp at c_14
   obtain ⟨y_15,h_16,hp⟩:=zab hp
   try simp [gP,gt,gr,gg,hm_0.copy,hm_0.elem,q_8,q_6,q_7,h_9,b_12,b_13,c_14]
   refine goal_call ([av m_0 e_10] ++ capsAV caps_f_) (Res.res y_15) (by simp [capsAV,gP,gt,gr,gg,hm_0.copy,hm_0.elem,q_8,q_6,q_7,h_9]) (hc_f_ _ _ _ (e_10,()) _ (Nat.le_succ d) (fun k hk=>by first | rfl | rw [q_7]) (by repeat (first | exact zag _ | exact hT.up | exact hT | (simp only [q_8,q_6,q_7];done) | refine Tight.upd ?_ (by simp) (by simp) | refine Tight.killB ?_ | refine zak ?_)) ⟨_,_,hm_0,rfl,rfl⟩ h_16) ?_
   try simp [gP,gt,gr,gg,hm_0.copy,hm_0.elem,q_8,q_6,q_7,h_9]
   rcases zad hp with ⟨h_17,hp⟩|⟨h_17,hp⟩
   ·try simp at h_17
    cases hp
    try simp [gP,gt,gr,gg,hm_0.copy,hm_0.elem,q_8,q_6,q_7,h_9,h_17]
    refine zao ?_
    rw [X_4_]
    exact ⟨_,rfl,by simp [zac,zaa,gP,gt,gr,gg,hm_0.copy,hm_0.elem,q_8,q_6,q_7,h_9,h_17],by simp [zaa,gP,gt,gr,gg,hm_0.copy,hm_0.elem,q_8,q_6,q_7,h_9,h_17]⟩
   ·try simp at h_17
    cases hp
    try simp [gP,gt,gr,gg,hm_0.copy,hm_0.elem,q_8,q_6,q_7,h_9,h_17]
    refine zah ?_
    rw [I_3_]
    exact ⟨by simp [zac,zaa,gP,gt,gr,gg,hm_0.copy,hm_0.elem,q_8,q_6,q_7,h_9,h_17],by simp [zac,gP,gt,gr,gg,hm_0.copy,hm_0.elem,q_8,q_6,q_7,h_9,h_17] <;> first | (intro x x1 x2 hx;have h0:=hl_f_ _ hx;simp at h0;omega) | (intro x hx;have h0:=hl_f_ _ hx;simp at h0;omega),by simp [zaa,gP,gt,gr,gg,hm_0.copy,hm_0.elem,q_8,q_6,q_7,h_9,h_17]⟩
  ·try simp at h_9
   cases hp
   try simp [gP,gt,gr,gg,hm_0.copy,hm_0.elem,q_8,q_6,q_7,h_9]
   refine zal ?_
   rw [X_4_]
   exact ⟨_,rfl,by simp [zaa,gP,gt,gr,gg,hm_0.copy,hm_0.elem,q_8,q_6,q_7,h_9]⟩
 ·intro out hX
  rw [X_4_] at hX
  rcases r_18 with r_18 | r_18
  ·simp only [Sum.elim_inl,Sum.elim_inr] at hX hp
   obtain ⟨σ_20,rfl,q_22,q_21⟩:=hX
   cases hp
   simp [Goal,FnEndI,memKill_hi,gP,gt,gr,gg,hm_0.copy,hm_0.elem,q_22,q_21,hT2]
  ·simp only [Sum.elim_inl,Sum.elim_inr] at hX hp
   obtain ⟨σ_23,rfl,q_24⟩:=hX
   cases hp
   simp [Goal,FnEndI,memKill_hi,gP,gt,gr,gg,hm_0.copy,hm_0.elem,q_24,hT2]

abbrev G118 (g:Cfg):Prop:=Has Tryz.prog g 118 Tryz.f118 [] [] [] []
theorem wI118 {g:Cfg} (G:G118 g) (G_148:G148 g) {d:Nat} {mem:Mem} (hT:Tight d mem)  {s:(List TMetState)} {f_:(TMetState→Option (Bool))} {m_0:Md} (hm_0:LentM m_0) {fk_f_:Nat} {caps_f_:List (Key × Nat)} (hl_f_:∀ c∈caps_f_,c.1.1≤d) (hc_f_:Clo g d mem fk_f_ caps_f_ fun x:TMetState × Unit=>f_ x.1) {y} (hp:slices_ContainsFunc_metState s f_=some y):callo g d 118 [av m_0 s,.one (.fn fk_f_ caps_f_)] mem=some (Res.res y,mem):=by
 have gP:=G.P;have gt:=G.tk;have gr:=G.ro;have gg:=G.gh
 have i_148:=G_148.no
 have hT2:memKill (fun k=>decide (d < k.1)) mem=mem:=hT
 refine start_in (Tryz.f118.body.getD .skip) [.tmp 4] G Tryz.func118 (by kernel_rfl) (by simp [Tryz.ntmps118]) rfl ?_
 unfold slices_ContainsFunc_metState at hp
 obtain ⟨y_1,h_2,hp⟩:=zab hp
 simp [Tryz.f118,gP,gt,gr,gg,i_148,hm_0.copy,hm_0.elem]
 refine goal_call [av m_0 s,.one (.fn fk_f_ caps_f_)] (Res.res y_1) (by simp [gP,gt,gr,gg,i_148,hm_0.copy,hm_0.elem]) (wI148 G_148 (by repeat (first | exact zag _ | exact hT.up | exact hT | (simp only [true_and];done) | refine Tight.upd ?_ (by simp) (by simp) | refine Tight.killB ?_ | refine zak ?_)) hm_0 (fun c hc=>Nat.le_succ_of_le (hl_f_ c hc)) (hc_f_.mono (Nat.le_succ d) (fun k hk=>rfl)) h_2) ?_
 cases hp
 simp [Goal,FnEndI,memKill_hi,gP,gt,gr,gg,i_148,hm_0.copy,hm_0.elem,hT2]

abbrev G119 (g:Cfg):Prop:=Has Tryz.prog g 119 Tryz.f119 [] [] [(120,C120)] []
theorem wI119 {g:Cfg} (G:G119 g) {d:Nat} {mem:Mem} (hT:Tight d mem) {K_1:Key} {x_:TMetState} {c0:TState} {m_0:Md} (hm_0:LentM m_0) {mk_1:Md} (hk_1:K_1.1≤d) (hb_1:mem K_1=some [cI c0.point,cL mk_1 c0.heap.vars,cL mk_1 c0.heap.next]) {y} (hp:impl_explore_2_1 x_ c0=some y):callo g d 119 [av m_0 x_,.one (.ptr K_1 0)] mem=some (Res.res y,mem):=by
 have gP:=G.P;have gt:=G.tk;have gr:=G.ro;have gg:=G.gh
 have c_120:=G.cs (120,C120) (by simp)
 have hT2:memKill (fun k=>decide (d < k.1)) mem=mem:=hT
 have hm0:∀ t,mem (d+1,t)=none:=fun t=>hT.none (by simp)
 have nk_1:∀ t,(K_1=(d+1,t))=False:=fun t=>by simp;intro h;rw [h] at hk_1;simp at hk_1;omega
 refine start_in (Tryz.f119.body.getD .skip) [.tmp 3] G Tryz.func119 (by kernel_rfl) (by simp [Tryz.ntmps119]) rfl ?_
 unfold impl_explore_2_1 at hp
 obtain ⟨y_1,h_2,hp⟩:=zab hp
 have c_3:=C120_eq h_2
 simp at c_3
 cases hp
 simp [Tryz.f119,Goal,FnEndI,memKill_hi,gP,gt,gr,gg,hm0,c_120,hm_0.copy,hm_0.elem,hb_1,nk_1,c_3,hT2]

abbrev G117 (g:Cfg):Prop:=Has Tryz.prog g 117 Tryz.f117 [11,12] [] [(120,C120)] []
theorem wI117 {g:Cfg} (G:G117 g) (G_118:G118 g) (G_148:G148 g) (G_119:G119 g) {d:Nat} {mem:Mem} (hT:Tight d mem) {K_3:Key} {s:TState} {from_:Int} {edge:Int} {c0:(List TMetState)} (hk_3:K_3.1=d) (hb_3:mem K_3=some [cL .own c0]) {y} (hp:impl_explore_2 s from_ edge c0=some y):callo g d 117 [av .own s,av .own from_,av .own edge,.one (.ptr K_3 0)] (markMem true d mem)=some (.tu [],(upd mem K_3 (some [cL .own y]))):=by
 have gP:=G.P;have gt:=G.tk;have gr:=G.ro;have gg:=G.gh
 have i_118:=G_118.no
 have i_148:=G_148.no
 have i_119:=G_119.no
 have c_120:=G.cs (120,C120) (by simp)
 have hT2:memKill (fun k=>decide (d < k.1)) mem=mem:=hT
 have hm0:∀ t,mem (d+1,t)=none:=fun t=>hT.none (by simp)
 have nk_3:∀ t,(K_3=(d+1,t))=False:=fun t=>by rw [eq_iff_iff,iff_false];intro h;rw [h] at hk_3;exact absurd hk_3 (Nat.succ_ne_self d)
 have nq_3:∀ t,((d+1,t)=K_3)=False:=fun t=>(propext eq_comm).trans (nk_3 t)
 refine start_eff (Tryz.f117.body.getD .skip) [] G Tryz.func117 (by kernel_rfl) (by simp [Tryz.ntmps117]) rfl ?_
 unfold impl_explore_2 at hp
 obtain ⟨y_1,h_2,hp⟩:=zab hp
 simp [Tryz.f117,gP,gt,gr,gg,hm0,c_120,i_118,i_148,i_119,hb_3,nk_3,hk_3,nq_3,markMem]
 refine goal_call [av .bor c0,.one (.fn 119 [((d+1,4),0)])] (Res.res y_1) (by simp [gP,gt,gr,gg,hm0,c_120,i_118,i_148,i_119,hb_3,nk_3,hk_3,nq_3,markMem]) (wI118 G_118 G_148 (by repeat (first | exact zag _ | exact hT.up | exact hT | (simp only [true_and];done) | refine Tight.upd ?_ (by simp) (by simp) | refine Tight.killB ?_ | refine zak ?_)) (.inr rfl) (by simp) (clo1 (p:=fun x0=>impl_explore_2_1 x0 s) fun d2 mem2 m0 x0 r2 hd2 ha2 hT2 hm0 hr2=>wI119 (mk_1:=.own) G_119 hT2 hm0 (show d+1≤d2 from hd2) ((ha2 _ (Nat.le_refl _)).trans (by simp [gP,gt,gr,gg,hm0,c_120,i_118,i_148,i_119,hb_3,nk_3,hk_3,nq_3,markMem])) hr2) h_2) ?_
 try simp [gP,gt,gr,gg,hm0,c_120,i_118,i_148,i_119,hb_3,nk_3,hk_3,nq_3,markMem]
 rcases zad hp with ⟨h_3,hp⟩|⟨h_3,hp⟩
 ·try simp at h_3
  cases hp
  simp [Goal,FnEndI,retR,rsrc,RSrc.val,nodupR,nodup,tupPart,gP,gt,gr,gg,hm0,c_120,i_118,i_148,i_119,hb_3,nk_3,hk_3,nq_3,markMem,h_3]
  all_goals (refine kill_back (AgreeX.fin ?_ (by simp [gP,gt,gr,gg,hm0,c_120,i_118,i_148,i_119,hb_3,nk_3,hk_3,nq_3,markMem,h_3])) (hT.upd (by omega) (by simp));repeat (first | exact fun k hk hne=>rfl | refine AgreeX.upd ?_ (by simp) | refine AgreeX.updK ?_))
 ·try simp at h_3
  obtain ⟨_,h_4,hp⟩:=zab hp
  have b_5:=room_ok h_4
  try simp at b_5
  cases hp
  simp [Goal,FnEndI,retR,rsrc,RSrc.val,nodupR,nodup,tupPart,gP,gt,gr,gg,hm0,c_120,i_118,i_148,i_119,hb_3,nk_3,hk_3,nq_3,markMem,h_3,b_5]
  all_goals (refine kill_back (AgreeX.fin ?_ (by simp [gP,gt,gr,gg,hm0,c_120,i_118,i_148,i_119,hb_3,nk_3,hk_3,nq_3,markMem,h_3,b_5])) (hT.upd (by omega) (by simp));repeat (first | exact fun k hk hne=>rfl | refine AgreeX.upd ?_ (by simp) | refine AgreeX.updK ?_))

def C69:List AV→Option AV:=specP (X:=TProgram × (List THeap) × Unit) fun x=>impl_explore x.1 x.2.1
theorem C69_eq {p_ start} {y} (h:impl_explore p_ start=some y):C69 [av .shr p_,av .shr start]=some (Res.res y):=zai (x:=(p_,start,())) h
def g69:Cfg:={ P:=Tryz.prog,take:=[(69,61),(69,88),(69,94),(69,1000094),(117,11),(117,12)],keep:=[((69,6),{ hd:=[2,6,7,25,26,27],bx:=[9],ex:=[2,6,7],rt:=[4,5] }),((69,11),{ hd:=[2,6,7,10],bx:=[13],ex:=[6],rt:=[4,5] }),((69,14),{ hd:=[2,6,7,10,55,56,57],bx:=[13],ex:=[2,6,7,10],rt:=[4,5] }),((147,2),{ hd:=[0,1,7,8],bx:=[],ex:=[],rt:=[4] }),((148,2),{ hd:=[0,1,7,8],bx:=[],ex:=[],rt:=[4] })],gho:=[],ctx:=[(53,C53),(54,C54),(55,C55),(57,C57),(111,C111),(120,C120)],away:=[(69,83,13),(69,87,13)],give:=[(69,35),(69,92)],deep:=[117] }
@[simp] theorem g69_s:type_of% (cfg_s (g:=g69) rfl):=cfg_s rfl
@[simp] theorem g69_wa (d f dst key):awayB g69 d f dst key=awayL [(69,83,13),(69,87,13)] d f dst key:=rfl
@[simp] theorem g69_wl (d f a key):lateB g69 d f a key=lateL [(69,83,13),(69,87,13)] d f a key:=rfl
theorem w69 {p_ start} {y} (hp:impl_explore p_ start=some y):∃ m,callo g69 0 69 [av .shr p_,av .shr start] mem0=some (Res.res y,m):=by
 have G_115:G115 g69:=⟨rfl,by kernel_rfl,rfl,fun t=>by simp,noAway (fun t=>by simp) (by simp) (fun t=>by simp),by simp [lookN],fun i=>by simp [lookK],by simp [g69,lookK],by simp⟩
 have G_147:G147 g69:=⟨rfl,by kernel_rfl,rfl,fun t=>by simp,noAway (fun t=>by simp) (by simp) (fun t=>by simp),by simp [lookN],fun i=>by simp [lookK],by simp [g69,lookK],by simp⟩
 have G_116:G116 g69:=⟨rfl,by kernel_rfl,rfl,fun t=>by simp,noAway (fun t=>by simp) (by simp) (fun t=>by simp),by simp [lookN],fun i=>by simp [lookK],by simp [g69,lookK],by simp⟩
 have G_117:G117 g69:=⟨rfl,by kernel_rfl,rfl,fun t=>by simp,noAway (fun t=>by simp) (by simp) (fun t=>by simp),by simp [lookN],fun i=>by simp [lookK],by simp [g69,lookK],by simp⟩
 have G_118:G118 g69:=⟨rfl,by kernel_rfl,rfl,fun t=>by simp,noAway (fun t=>by simp) (by simp) (fun t=>by simp),by simp [lookN],fun i=>by simp [lookK],by simp [g69,lookK],by simp⟩
 have G_148:G148 g69:=⟨rfl,by kernel_rfl,rfl,fun t=>by simp,noAway (fun t=>by simp) (by simp) (fun t=>by simp),by simp [lookN],fun i=>by simp [lookK],by simp [g69,lookK],by simp⟩
 have G_119:G119 g69:=⟨rfl,by kernel_rfl,rfl,fun t=>by simp,noAway (fun t=>by simp) (by simp) (fun t=>by simp),by simp [lookN],fun i=>by simp [lookK],by simp [g69,lookK],by simp⟩
 refine st0 [.tmp 4,.tmp 5] Tryz.func69 ?_
 unfold impl_explore at hp
 obtain ⟨y_1,h_2,hp⟩:=zab hp
 have c_3:=C53_eq h_2
 simp at c_3
 simp [Tryz.f69,c_3]
 rcases zad hp with ⟨h_4,hp⟩|⟨h_4,hp⟩
 ·try simp at h_4
  obtain ⟨y_5,h_6,hp⟩:=zab hp
  try simp [h_4]
  refine goal_call [av .shr start,.one (.fn 116 [((1,2),0)])] (Res.res y_5) (by simp [h_4]) (wI115 G_115 G_147 (by repeat (first | exact zag _ | exact hT.up | exact hT | (simp only [true_and];done) | refine Tight.upd ?_ (by simp) (by simp) | refine Tight.killB ?_ | refine zak ?_)) (.inl rfl) (by simp) (clo1 (p:=fun x0=>impl_explore_1 x0 p_) fun d2 mem2 m0 x0 r2 hd2 ha2 hT2 hm0 hr2=>wI116 (mk_1:=.shr) G_116 hT2 hm0 (show 1≤d2 from hd2) ((ha2 _ (Nat.le_refl _)).trans (by simp [h_4])) hr2) h_6) ?_
  try simp [h_4]
  rcases zad hp with ⟨h_7,hp⟩|⟨h_7,hp⟩
  ·try simp at h_7
   cases hp
   simp [Goal,FnEnd,retR,rsrc,RSrc.val,nodupR,nodup,tupPart,h_4,h_7]
  ·try simp at h_7
   try simp [h_4,h_7]
   obtain ⟨r_30,h_31,hp⟩:=zab hp
   obtain ⟨I_10,I_10_⟩:=exV fun (s_8:Int × (List TMetState)) (σ:St)=>(σ.env 2=uP (1,2)∧σ.env 6=uP (1,6)∧σ.env 7=.one (.fn 117 [((1,6),0)])∧σ.env 25=uL .shr start∧σ.env 26=uI (start.length:Int)∧σ.env 27=uI s_8.1∧σ.mem (1,2)=some [cL .shr p_.vars,cI p_.points,cL .shr p_.edges]∧σ.mem (1,6)=some [cL .own s_8.2])∧Tight (1) σ.mem∧NoBox [(1,2),(1,6)] σ.mem
   obtain ⟨X_11,X_11_⟩:=exV fun (r_30:(List TMetState)) (out:Out)=>∃ σ:St,out=.exit 0 σ∧(σ.env 2=uP (1,2)∧σ.env 6=uP (1,6)∧σ.env 7=.one (.fn 117 [((1,6),0)])∧σ.mem (1,2)=some [cL .shr p_.vars,cI p_.points,cL .shr p_.edges]∧σ.mem (1,6)=some [cL .own r_30])∧Tight (1) σ.mem∧NoBox [(1,2),(1,6)] σ.mem
   refine loopP ({ hd:=[2,6,7,25,26,27],bx:=[9],ex:=[2,6,7],rt:=[4,5] }) I_10 X_11 h_31 (by exact rfl) ?_ ?_ ?_
   ·rw [I_10_]
    exact ⟨by simp [zac,zaa,h_4,h_7],(by repeat (first | exact zag _ | exact hT.up | exact hT | refine Tight.restrict ?_ | refine Tight.upd ?_ (by simp) (by simp) | refine Tight.killB ?_ | refine zak ?_)),NoBox.restrict (by intro k hk hb;simp at hk hb;simp [hk,hb,h_4,h_7])⟩
   ·intro s_8 σ_12 a_9 hI hp
    rw [I_10_] at hI
    obtain ⟨q_15,ht_13,hn_14⟩:=hI
    try simp [h_4,h_7,q_15]
    rcases zad hp with ⟨h_16,hp⟩|⟨h_16,hp⟩
    ·try simp at h_16
     obtain ⟨e_17,h_18,hp⟩:=zab hp
     have b_19:=at_lo h_18
     have b_20:=at_hi h_18
     try simp at b_19 b_20
     have c_21:=seg_at' h_18 0 2 (by decide) (ds:=[.sl e_17.vars.length (encL e_17.vars),.sl e_17.next.length (encL e_17.next)]) rfl
     try simp at c_21
     have n_22:=hn_14 (1,9) (by simp)
     obtain ⟨y_23,h_24,hp⟩:=zab hp
     have c_25:=C55_eq h_24
     simp at c_25
     obtain ⟨y_28,h_29,hp⟩:=zab hp
     try simp [h_4,h_7,q_15,h_16,b_19,b_20,c_21,n_22,c_25]
     refine goal_giveE [av .own (⟨0,y_23⟩:TState),av .own (-1),av .own (-1),.one (.ptr (1,6) 0)] (.tu []) (by simp [h_4,h_7,q_15,h_16]) (wI117 (K_3:=(1,6)) G_117 G_118 G_148 G_119 (by repeat (first | exact ht_13 | exact zag _ | exact hT.up | exact hT | (simp only [q_15];done) | refine Tight.upd ?_ (by simp) (by simp) | refine Tight.killB ?_ | refine zak ?_)) (by rfl) (by simp [h_4,h_7,q_15,h_16]) h_29) ?_
     cases hp
     try simp [h_4,h_7,q_15,h_16]
     refine zah ?_
     rw [I_10_]
     exact ⟨by simp [zac,zaa,h_4,h_7,q_15,h_16],(by repeat (first | exact ht_13 | exact zag _ | exact hT.up | exact hT | refine Tight.restrict ?_ | refine Tight.upd ?_ (by simp) (by simp) | refine Tight.killB ?_ | refine zak ?_)),NoBox.restrict (by intro k hk hb;simp at hk hb;simp [hk,hb,h_4,h_7,q_15,h_16,hn_14 k (by simp [hk,hb])])⟩
    ·try simp at h_16
     cases hp
     try simp [h_4,h_7,q_15,h_16]
     refine zal ?_
     rw [X_11_]
     exact ⟨_,rfl,by simp [zac,zaa,h_4,h_7,q_15,h_16],(by repeat (first | exact ht_13 | exact zag _ | exact hT.up | exact hT | refine Tight.restrict ?_ | refine Tight.upd ?_ (by simp) (by simp) | refine Tight.killB ?_ | refine zak ?_)),NoBox.restrict (by intro k hk hb;simp at hk hb;simp [hk,hb,h_4,h_7,q_15,h_16,hn_14 k (by simp [hk,hb])])⟩
   ·intro out hX
    rw [X_11_] at hX
    obtain ⟨σ_32,rfl,q_35,ht_33,hn_34⟩:=hX
    try simp [h_4,h_7,q_35]
    obtain ⟨r_98,h_99,hp⟩:=zab hp
    obtain ⟨I_38,I_38_⟩:=exV fun (s_36:Int × (List TMetState)) (σ:St)=>(σ.env 2=uP (1,2)∧σ.env 6=uP (1,6)∧σ.env 7=.one (.fn 117 [((1,6),0)])∧σ.env 10=uI s_36.1∧σ.mem (1,2)=some [cL .shr p_.vars,cI p_.points,cL .shr p_.edges]∧σ.mem (1,6)=some [cL .own s_36.2])∧Tight (1) σ.mem∧NoBox [(1,2),(1,6)] σ.mem
    obtain ⟨X_39,X_39_⟩:=exV fun (r_98:(List TMetState)) (out:Out)=>∃ σ:St,out=.exit 2 σ∧(σ.env 6=uP (1,6)∧σ.mem (1,2)=some [cL .shr p_.vars,cI p_.points,cL .shr p_.edges]∧σ.mem (1,6)=some [cL .own r_98])∧Tight (1) σ.mem∧NoBox [(1,2),(1,6)] σ.mem
    refine loopP ({ hd:=[2,6,7,10],bx:=[13],ex:=[6],rt:=[4,5] }) I_38 X_39 h_99 (by exact rfl) ?_ ?_ ?_
    ·rw [I_38_]
     exact ⟨by simp [zac,zaa,h_4,h_7,q_35],(by repeat (first | exact ht_33 | exact zag _ | exact hT.up | exact hT | refine Tight.restrict ?_ | refine Tight.upd ?_ (by simp) (by simp) | refine Tight.killB ?_ | refine zak ?_)),NoBox.restrict (by intro k hk hb;simp at hk hb;simp [hk,hb,h_4,h_7,q_35,hn_34 k (by simp [hk,hb])])⟩
    ·intro s_36 σ_40 a_37 hI hp
     rw [I_38_] at hI
     obtain ⟨q_43,ht_41,hn_42⟩:=hI
     try simp [h_4,h_7,q_43]
     rcases zad hp with ⟨h_44,hp⟩|⟨h_44,hp⟩
     ·try simp at h_44
      try simp [h_4,h_7,q_43,h_44]
      rcases zad hp with ⟨h_45,hp⟩|⟨h_45,hp⟩
      ·try simp at h_45
       obtain ⟨e_46,h_47,hp⟩:=zab hp
       have b_48:=at_lo h_47
       have b_49:=at_hi h_47
       try simp at b_48 b_49
       have c_50:=seg_at' h_47 0 1 (by decide) (ds:=[.sc (.int .i64 e_46.state.point)]) rfl
       try simp at c_50
       obtain ⟨y_51,h_52,hp⟩:=zab hp
       have c_53:=C111_eq h_52
       simp at c_53
       try simp [h_4,h_7,q_43,h_44,h_45,b_48,b_49,c_50,c_53]
       obtain ⟨r_92,h_93,hp⟩:=zab hp
       obtain ⟨I_56,I_56_⟩:=exV fun (s_54:Int × (List TMetState)) (σ:St)=>(σ.env 2=uP (1,2)∧σ.env 6=uP (1,6)∧σ.env 7=.one (.fn 117 [((1,6),0)])∧σ.env 10=uI s_36.1∧σ.env 55=uL .own y_51∧σ.env 56=uI (y_51.length:Int)∧σ.env 57=uI s_54.1∧σ.mem (1,2)=some [cL .shr p_.vars,cI p_.points,cL .shr p_.edges]∧σ.mem (1,6)=some [cL .own s_54.2])∧Tight (1) σ.mem∧NoBox [(1,2),(1,6)] σ.mem
       obtain ⟨X_57,X_57_⟩:=exV fun (r_92:(List TMetState)) (out:Out)=>∃ σ:St,out=.exit 4 σ∧(σ.env 2=uP (1,2)∧σ.env 6=uP (1,6)∧σ.env 7=.one (.fn 117 [((1,6),0)])∧σ.env 10=uI s_36.1∧σ.mem (1,2)=some [cL .shr p_.vars,cI p_.points,cL .shr p_.edges]∧σ.mem (1,6)=some [cL .own r_92])∧Tight (1) σ.mem∧NoBox [(1,2),(1,6)] σ.mem
       refine loopP ({ hd:=[2,6,7,10,55,56,57],bx:=[13],ex:=[2,6,7,10],rt:=[4,5] }) I_56 X_57 h_93 (by exact rfl) ?_ ?_ ?_
       ·rw [I_56_]
        exact ⟨by simp [zac,zaa,h_4,h_7,q_43,h_44,h_45],(by repeat (first | exact ht_41 | exact zag _ | exact hT.up | exact hT | refine Tight.restrict ?_ | refine Tight.upd ?_ (by simp) (by simp) | refine Tight.killB ?_ | refine zak ?_)),NoBox.restrict (by intro k hk hb;simp at hk hb;simp [hk,hb,h_4,h_7,q_43,h_44,h_45,hn_42 k (by simp [hk,hb])])⟩
       ·intro s_54 σ_58 a_55 hI hp
        rw [I_56_] at hI
        obtain ⟨q_61,ht_59,hn_60⟩:=hI
        try simp [h_4,h_7,h_44,h_45,q_61]
        rcases zad hp with ⟨h_62,hp⟩|⟨h_62,hp⟩
        ·try simp at h_62
         obtain ⟨e_63,h_64,hp⟩:=zab hp
         have b_65:=at_lo h_64
         have b_66:=at_hi h_64
         try simp at b_65 b_66
         have c_67:=seg_at' h_64 0 1 (by decide) (ds:=[.sc (.int .i64 e_63)]) rfl
         try simp at c_67
         obtain ⟨e_68,h_69,hp⟩:=zab hp
         have b_70:=at_lo h_69
         have b_71:=at_hi h_69
         try simp at b_70 b_71
         have c_72:=seg_at' h_69 2 3 (by decide) (ds:=[.sc (.int .i64 e_68.stmt.kind),.sc (.string e_68.stmt.a),.sc (.string e_68.stmt.b)]) rfl
         try simp at c_72
         obtain ⟨e_73,h_74,hp⟩:=zab hp
         have b_75:=at_lo h_74
         have b_76:=at_hi h_74
         try simp at b_75 b_76
         have c_77:=seg_at' h_74 1 2 (by decide) (ds:=[.sl e_73.state.heap.vars.length (encL e_73.state.heap.vars),.sl e_73.state.heap.next.length (encL e_73.state.heap.next)]) rfl
         try simp at c_77
         obtain ⟨y_78,h_79,hp⟩:=zab hp
         have c_80:=C57_eq h_79
         simp at c_80
         have n_81:=hn_60 (1,13) (by simp)
         try simp [h_4,h_7,h_44,h_45,q_61,h_62,b_65,b_66,c_67,b_70,b_71,c_72,b_75,b_76,c_77,c_80,n_81]
         rcases zad hp with ⟨h_82,hp⟩|⟨h_82,hp⟩
         ·try simp at h_82
          obtain ⟨e_83,h_84,hp⟩:=zab hp
          cases Option.some.inj (h_69.symm.trans h_84)
          have b_85:=at_lo h_69
          have b_86:=at_hi h_69
          try simp at b_85 b_86
          have c_87:=seg_at' h_69 1 1 (by decide) (ds:=[.sc (.int .i64 e_68.to_)]) rfl
          try simp at c_87
          obtain ⟨y_90,h_91,hp⟩:=zab hp
          try simp [h_4,h_7,h_44,h_45,q_61,h_62,h_82,b_85,b_86,c_87]
          refine goal_giveE [av .own (⟨e_68.to_,y_78.1⟩:TState),av .own s_36.1,av .own e_63,.one (.ptr (1,6) 0)] (.tu []) (by simp [h_4,h_7,h_44,h_45,q_61,h_62,h_82]) (wI117 (K_3:=(1,6)) G_117 G_118 G_148 G_119 (by repeat (first | exact ht_59 | exact zag _ | exact hT.up | exact hT | (simp only [q_61];done) | refine Tight.upd ?_ (by simp) (by simp) | refine Tight.killB ?_ | refine zak ?_)) (by rfl) (by simp [h_4,h_7,h_44,h_45,q_61,h_62,h_82]) h_91) ?_
          cases hp
          try simp [h_4,h_7,h_44,h_45,q_61,h_62,h_82]
          refine zah ?_
          rw [I_56_]
          exact ⟨by simp [zac,zaa,h_4,h_7,h_44,h_45,q_61,h_62,h_82],(by repeat (first | exact ht_59 | exact zag _ | exact hT.up | exact hT | refine Tight.restrict ?_ | refine Tight.upd ?_ (by simp) (by simp) | refine Tight.killB ?_ | refine zak ?_)),NoBox.restrict (by intro k hk hb;simp at hk hb;simp [hk,hb,h_4,h_7,h_44,h_45,q_61,h_62,h_82,hn_60 k (by simp [hk,hb])])⟩
         ·try simp at h_82
          cases hp
          try simp [h_4,h_7,h_44,h_45,q_61,h_62,h_82]
          refine zah ?_
          rw [I_56_]
          exact ⟨by simp [zac,zaa,h_4,h_7,h_44,h_45,q_61,h_62,h_82],(by repeat (first | exact ht_59 | exact zag _ | exact hT.up | exact hT | refine Tight.restrict ?_ | refine Tight.upd ?_ (by simp) (by simp) | refine Tight.killB ?_ | refine zak ?_)),NoBox.restrict (by intro k hk hb;simp at hk hb;simp [hk,hb,h_4,h_7,h_44,h_45,q_61,h_62,h_82,hn_60 k (by simp [hk,hb])])⟩
        ·try simp at h_62
         cases hp
         try simp [h_4,h_7,h_44,h_45,q_61,h_62]
         refine zal ?_
         rw [X_57_]
         exact ⟨_,rfl,by simp [zac,zaa,h_4,h_7,h_44,h_45,q_61,h_62],(by repeat (first | exact ht_59 | exact zag _ | exact hT.up | exact hT | refine Tight.restrict ?_ | refine Tight.upd ?_ (by simp) (by simp) | refine Tight.killB ?_ | refine zak ?_)),NoBox.restrict (by intro k hk hb;simp at hk hb;simp [hk,hb,h_4,h_7,h_44,h_45,q_61,h_62,hn_60 k (by simp [hk,hb])])⟩
       ·intro out hX
        rw [X_57_] at hX
        obtain ⟨σ_94,rfl,q_97,ht_95,hn_96⟩:=hX
        cases hp
        try simp [h_4,h_7,h_44,h_45,q_97]
        refine zah ?_
        rw [I_38_]
        exact ⟨by simp [zac,zaa,h_4,h_7,h_44,h_45,q_97],(by repeat (first | exact ht_95 | exact zag _ | exact hT.up | exact hT | refine Tight.restrict ?_ | refine Tight.upd ?_ (by simp) (by simp) | refine Tight.killB ?_ | refine zak ?_)),NoBox.restrict (by intro k hk hb;simp at hk hb;simp [hk,hb,h_4,h_7,h_44,h_45,q_97,hn_96 k (by simp [hk,hb])])⟩
      ·try simp at h_45
       cases hp
       try simp [h_4,h_7,q_43,h_44,h_45]
       refine zal ?_
       rw [X_39_]
       exact ⟨_,rfl,by simp [zac,zaa,h_4,h_7,q_43,h_44,h_45],(by repeat (first | exact ht_41 | exact zag _ | exact hT.up | exact hT | refine Tight.restrict ?_ | refine Tight.upd ?_ (by simp) (by simp) | refine Tight.killB ?_ | refine zak ?_)),NoBox.restrict (by intro k hk hb;simp at hk hb;simp [hk,hb,h_4,h_7,q_43,h_44,h_45,hn_42 k (by simp [hk,hb])])⟩
     ·try simp at h_44
      cases hp
      try simp [h_4,h_7,q_43,h_44]
      refine zal ?_
      rw [X_39_]
      exact ⟨_,rfl,by simp [zac,zaa,h_4,h_7,q_43,h_44],(by repeat (first | exact ht_41 | exact zag _ | exact hT.up | exact hT | refine Tight.restrict ?_ | refine Tight.upd ?_ (by simp) (by simp) | refine Tight.killB ?_ | refine zak ?_)),NoBox.restrict (by intro k hk hb;simp at hk hb;simp [hk,hb,h_4,h_7,q_43,h_44,hn_42 k (by simp [hk,hb])])⟩
    ·intro out hX
     rw [X_39_] at hX
     obtain ⟨σ_100,rfl,q_103,ht_101,hn_102⟩:=hX
     cases hp
     simp [Goal,FnEnd,retR,rsrc,RSrc.val,nodupR,nodup,tupPart,h_4,h_7,q_103]
 ·try simp at h_4
  cases hp
  simp [Goal,FnEnd,retR,rsrc,RSrc.val,nodupR,nodup,tupPart,h_4]
theorem pc69:PC Tryz.prog 69 C69:=pc_of (g:=g69) (zaj _ g69_s.2.1 ⟨pc53,pc54,pc55,pc57,pc111,pc120,trivial⟩) (ent Tryz.func69) fun x y h=>w69 h

def C112:List AV→Option AV:=specP (X:=Int × Unit) fun x=>impl_IsError x.1
theorem C112_eq {code} {y} (h:impl_IsError code=some y):C112 [av .shr code]=some (Res.res y):=zai (x:=(code,())) h
def g112:Cfg:={ P:=Tryz.prog,take:=[],keep:=[],gho:=[],ctx:=[(56,C56)] }
@[simp] theorem g112_s:type_of% (cfg_s (g:=g112) rfl):=cfg_s rfl
theorem w112 {code} {y} (hp:impl_IsError code=some y):∃ m,callo g112 0 112 [av .shr code] mem0=some (Res.res y,m):=by
 refine st0 [.tmp 2] Tryz.func112 ?_
 unfold impl_IsError at hp
 obtain ⟨y_1,h_2,hp⟩:=zab hp
 have c_3:=C56_eq h_2
 simp at c_3
 cases hp
 simp [Tryz.f112,Goal,FnEnd,c_3]
theorem pc112:PC Tryz.prog 112 C112:=pc_of (g:=g112) (zaj _ g112_s.2.1 ⟨pc56,trivial⟩) (ent Tryz.func112) fun x y h=>w112 h

def C42:List AV→Option AV:=specP (X:=TProgram × (List THeap) × TAlarm × Unit) fun x=>impl_ConfirmAlarm x.1 x.2.1 x.2.2.1
theorem C42_eq {p_ start a_} {y} (h:impl_ConfirmAlarm p_ start a_=some y):C42 [av .shr p_,av .shr start,av .shr a_]=some (Res.res y):=zai (x:=(p_,start,a_,())) h
def g42:Cfg:={ P:=Tryz.prog,take:=[(66,17),(66,42),(66,77),(66,98),(72,15),(123,9)],keep:=[((66,5),{ hd:=[2,3,7,25,26,27],bx:=[10,13,15],ex:=[],rt:=[6] }),((66,8),{ hd:=[2,3,7,9,10,25,26,27,36,37,38],bx:=[13,15],ex:=[2,3,7,25,26,27],rt:=[6] }),((66,14),{ hd:=[2,3,7,9,10,15,16,25,26,27,36,37,38],bx:=[],ex:=[2,3,7,9,10,15,16,25,26,27,36,37,38],rt:=[6] }),((113,1),{ hd:=[0,2,3],bx:=[],ex:=[],rt:=[] })],gho:=[((66,17),[.thaw (.at 15 2) 1242 1]),((66,2000017),[.frz (.at 15 2)]),((66,2000001),[.share 7])],ctx:=[(55,C55),(57,C57),(69,C69),(111,C111),(112,C112)],away:=[(72,16,6)],give:=[(66,99)] }
@[simp] theorem g42_s:type_of% (cfg_s (g:=g42) rfl):=cfg_s rfl
@[simp] theorem g42_wa (d f dst key):awayB g42 d f dst key=awayL [(72,16,6)] d f dst key:=rfl
@[simp] theorem g42_wl (d f a key):lateB g42 d f a key=lateL [(72,16,6)] d f a key:=rfl
theorem wD113 {m3_1242:(List Int)} {m1_3_0:(List ByteArray)} {m1_3_1:Int} {m1_3_2:(List TEdge)} {m1_5_0:Int} {m1_5_1:Int} {m1_6_0:(List Int)} {m1_6_1:(List Int)} {m1_6_2:(List Int)} {m1_6_3:Int} {m2_3_0:(List ByteArray)} {m2_3_1:Int} {m2_3_2:(List TEdge)} {m2_6_0:(List Int)} {m2_6_1:(List Int)} {m2_6_2:(List Int)} {m2_6_3:Int} {m2_8_0:(List Int)} {m2_8_1:(List Int)} {m2_8_2:(List Int)} {m2_8_3:Int} {m2_9_0:Bool} {m3_3_0:(List ByteArray)} {m3_3_1:Int} {m3_3_2:(List TEdge)} {m3_10_0:Int} {m3_10_1:(List Int)} {m3_10_2:(List Int)} {m3_10_3:Int} {m3_10_4:Int} {m3_13_0:(List Int)} {m3_13_1:(List Int)} {m3_15_0:(List Int)} {m3_15_1:(List Int)} {m3_15_3:Int} {mem:Mem} (hT:Tight 3 mem) (hq0:mem (1,3)=some [cL .shr m1_3_0,cI m1_3_1,cL .shr m1_3_2]∧mem (1,5)=some [cI m1_5_0,cI m1_5_1]∧mem (1,6)=some [cL .own m1_6_0,cL .own m1_6_1,cL .own m1_6_2,cI m1_6_3]∧mem (2,3)=some [cL .shr m2_3_0,cI m2_3_1,cL .shr m2_3_2]∧mem (2,5)=some [.fn 74 [((1,5),0)]]∧mem (2,6)=some [cL .own m2_6_0,cL .own m2_6_1,cL .own m2_6_2,cI m2_6_3]∧mem (2,8)=some [cL .own m2_8_0,cL .own m2_8_1,cL .own m2_8_2,cI m2_8_3]∧mem (2,9)=some [cB m2_9_0]∧mem (3,3)=some [cL .shr m3_3_0,cI m3_3_1,cL .shr m3_3_2]∧mem (3,10)=some [cI m3_10_0,cL .shr m3_10_1,cL .shr m3_10_2,cI m3_10_3,cI m3_10_4]∧mem (3,13)=some [cL .own m3_13_0,cL .own m3_13_1]∧mem (3,15)=some [cL .own m3_15_0,cL .own m3_15_1,.bs (3,1242) m3_1242.length 1,cI m3_15_3]∧mem (3,1242)=some (rowC m3_1242)) (hn0:NoBox [(1,3),(1,5),(1,6),(2,3),(2,5),(2,6),(2,8),(2,9),(3,3),(3,10),(3,13),(3,15),(3,1242)] mem) {y} (hp:slices_Reverse_int m3_1242=some y):∃ m,callo g42 3 113 [.one (.bs (3,1242) m3_1242.length 1)] mem=some (.tu [],m)∧((m (1,3)=some [cL .shr m1_3_0,cI m1_3_1,cL .shr m1_3_2]∧m (1,5)=some [cI m1_5_0,cI m1_5_1]∧m (1,6)=some [cL .own m1_6_0,cL .own m1_6_1,cL .own m1_6_2,cI m1_6_3]∧m (2,3)=some [cL .shr m2_3_0,cI m2_3_1,cL .shr m2_3_2]∧m (2,5)=some [.fn 74 [((1,5),0)]]∧m (2,6)=some [cL .own m2_6_0,cL .own m2_6_1,cL .own m2_6_2,cI m2_6_3]∧m (2,8)=some [cL .own m2_8_0,cL .own m2_8_1,cL .own m2_8_2,cI m2_8_3]∧m (2,9)=some [cB m2_9_0]∧m (3,3)=some [cL .shr m3_3_0,cI m3_3_1,cL .shr m3_3_2]∧m (3,10)=some [cI m3_10_0,cL .shr m3_10_1,cL .shr m3_10_2,cI m3_10_3,cI m3_10_4]∧m (3,13)=some [cL .own m3_13_0,cL .own m3_13_1]∧m (3,15)=some [cL .own m3_15_0,cL .own m3_15_1,.bs (3,1242) y.length 1,cI m3_15_3]∧m (3,1242)=some (rowC y))∧Tight 3 m∧NoBox [(1,3),(1,5),(1,6),(2,3),(2,5),(2,6),(2,8),(2,9),(3,3),(3,10),(3,13),(3,15),(3,1242)] m):=by
 refine stD [] Tryz.func113 fun QV QV_=>?_
 unfold slices_Reverse_int at hp
 simp [Tryz.f113,hq0]
 obtain ⟨r_31,h_32,hp⟩:=zab hp
 obtain ⟨I_3,I_3_⟩:=exV fun (s_1:Int × Int × (List Int)) (σ:St)=>(σ.env 0=.one (.bs (3,1242) s_1.2.2.length 1)∧σ.env 2=uI s_1.1∧σ.env 3=uI s_1.2.1∧σ.mem (1,3)=some [cL .shr m1_3_0,cI m1_3_1,cL .shr m1_3_2]∧σ.mem (1,5)=some [cI m1_5_0,cI m1_5_1]∧σ.mem (1,6)=some [cL .own m1_6_0,cL .own m1_6_1,cL .own m1_6_2,cI m1_6_3]∧σ.mem (2,3)=some [cL .shr m2_3_0,cI m2_3_1,cL .shr m2_3_2]∧σ.mem (2,5)=some [.fn 74 [((1,5),0)]]∧σ.mem (2,6)=some [cL .own m2_6_0,cL .own m2_6_1,cL .own m2_6_2,cI m2_6_3]∧σ.mem (2,8)=some [cL .own m2_8_0,cL .own m2_8_1,cL .own m2_8_2,cI m2_8_3]∧σ.mem (2,9)=some [cB m2_9_0]∧σ.mem (3,3)=some [cL .shr m3_3_0,cI m3_3_1,cL .shr m3_3_2]∧σ.mem (3,10)=some [cI m3_10_0,cL .shr m3_10_1,cL .shr m3_10_2,cI m3_10_3,cI m3_10_4]∧σ.mem (3,13)=some [cL .own m3_13_0,cL .own m3_13_1]∧σ.mem (3,15)=some [cL .own m3_15_0,cL .own m3_15_1,.bs (3,1242) s_1.2.2.length 1,cI m3_15_3]∧σ.mem (3,1242)=some (rowC s_1.2.2))∧NoBox [(1,3),(1,5),(1,6),(2,3),(2,5),(2,6),(2,8),(2,9),(3,3),(3,10),(3,13),(3,15),(3,1242)] σ.mem
 obtain ⟨X_4,X_4_⟩:=exV fun (r_31:(List Int)) (out:Out)=>∃ σ:St,out=.exit 0 σ∧(σ.mem (1,3)=some [cL .shr m1_3_0,cI m1_3_1,cL .shr m1_3_2]∧σ.mem (1,5)=some [cI m1_5_0,cI m1_5_1]∧σ.mem (1,6)=some [cL .own m1_6_0,cL .own m1_6_1,cL .own m1_6_2,cI m1_6_3]∧σ.mem (2,3)=some [cL .shr m2_3_0,cI m2_3_1,cL .shr m2_3_2]∧σ.mem (2,5)=some [.fn 74 [((1,5),0)]]∧σ.mem (2,6)=some [cL .own m2_6_0,cL .own m2_6_1,cL .own m2_6_2,cI m2_6_3]∧σ.mem (2,8)=some [cL .own m2_8_0,cL .own m2_8_1,cL .own m2_8_2,cI m2_8_3]∧σ.mem (2,9)=some [cB m2_9_0]∧σ.mem (3,3)=some [cL .shr m3_3_0,cI m3_3_1,cL .shr m3_3_2]∧σ.mem (3,10)=some [cI m3_10_0,cL .shr m3_10_1,cL .shr m3_10_2,cI m3_10_3,cI m3_10_4]∧σ.mem (3,13)=some [cL .own m3_13_0,cL .own m3_13_1]∧σ.mem (3,15)=some [cL .own m3_15_0,cL .own m3_15_1,.bs (3,1242) r_31.length 1,cI m3_15_3]∧σ.mem (3,1242)=some (rowC r_31))∧NoBox [(1,3),(1,5),(1,6),(2,3),(2,5),(2,6),(2,8),(2,9),(3,3),(3,10),(3,13),(3,15),(3,1242)] σ.mem
 refine loopP ({ hd:=[0,2,3],bx:=[],ex:=[],rt:=[] }) I_3 X_4 h_32 (by exact rfl) ?_ ?_ ?_
 ·rw [I_3_]
  exact ⟨by simp [zac,zaa,hq0],NoBox.restrict (by intro k hk hb;simp at hk hb;simp [hk,hb,hq0,hn0 k (by simp [hk,hb])])⟩
 ·intro s_1 σ_5 a_2 hI hp
  rw [I_3_] at hI
  obtain ⟨q_7,hn_6⟩:=hI
  try simp [hq0,q_7]
  rcases zad hp with ⟨h_8,hp⟩|⟨h_8,hp⟩
  ·try simp at h_8
   obtain ⟨e_9,h_10,hp⟩:=zab hp
   have b_11:=at_lo h_10
   have b_12:=at_hi h_10
   try simp at b_11 b_12
   have c_13:=seg_row h_10 0 1 (by decide) (ds:=[.sc (.int .i64 e_9)]) rfl
   try simp at c_13
   obtain ⟨e_14,h_15,hp⟩:=zab hp
   have b_16:=at_lo h_15
   have b_17:=at_hi h_15
   try simp at b_16 b_17
   have c_18:=seg_row h_15 0 1 (by decide) (ds:=[.sc (.int .i64 e_14)]) rfl
   try simp at c_18
   obtain ⟨e_19,h_20,hp⟩:=zab hp
   cases Option.some.inj (h_15.symm.trans h_20)
   have b_21:=at_lo h_15
   have b_22:=at_hi h_15
   try simp at b_21 b_22
   have c_23:=splice_row h_15 0 e_9 [(cI e_9)] (by simp) rfl
   try simp at c_23
   have l_24:=row_room h_15 0 (m:=1) (by decide)
   try simp at l_24
   obtain ⟨e_25,h_26,hp⟩:=zab hp
   have b_27:=at_lo h_26
   have b_28:=at_hi h_26
   try simp at b_27 b_28
   have c_29:=splice_row h_26 0 e_14 [(cI e_14)] (by simp) rfl
   try simp at c_29
   have l_30:=row_room h_26 0 (m:=1) (by decide)
   try simp at l_30
   cases hp
   try simp [hq0,q_7,h_8,b_11,b_12,c_13,b_16,b_17,c_18,b_21,b_22,c_23,l_24,b_27,b_28,c_29,l_30]
   refine zah ?_
   rw [I_3_]
   exact ⟨by simp [zac,zaa,hq0,q_7,h_8,b_11,b_12,c_13,b_16,b_17,c_18,b_21,b_22,c_23,l_24,b_27,b_28,c_29,l_30],NoBox.restrict (by intro k hk hb;simp at hk hb;simp [hk,hb,hq0,q_7,h_8,b_11,b_12,c_13,b_16,b_17,c_18,b_21,b_22,c_23,l_24,b_27,b_28,c_29,l_30,hn_6 k (by simp [hk,hb])])⟩
  ·try simp at h_8
   cases hp
   try simp [hq0,q_7,h_8]
   refine zal ?_
   rw [X_4_]
   exact ⟨_,rfl,by simp [zac,zaa,hq0,q_7,h_8],NoBox.restrict (by intro k hk hb;simp at hk hb;simp [hk,hb,hq0,q_7,h_8,hn_6 k (by simp [hk,hb])])⟩
 ·intro out hX
  rw [X_4_] at hX
  obtain ⟨σ_33,rfl,q_35,hn_34⟩:=hX
  cases hp
  simp [Goal,FnEndD,retR,rsrc,RSrc.val,nodupR,nodup,tupPart,hq0,q_35]
  rw [QV_]
  exact ⟨by simp [hq0,q_35],tight_end _ _,nobox_end (L':=[(1,3),(1,5),(1,6),(2,3),(2,5),(2,6),(2,8),(2,9),(3,3),(3,10),(3,13),(3,15),(3,1242)]) (by intro k hk;simp at hk;simp [hk,hq0,q_35,hn_34 k (by simp [hk])]) (by simp)⟩

theorem wD74 {f_:TFailure} {m1_5_0:Int} {m1_5_1:Int} {m1_3_0:(List ByteArray)} {m1_3_1:Int} {m1_3_2:(List TEdge)} {m1_6_0:(List Int)} {m1_6_1:(List Int)} {m1_6_2:(List Int)} {m1_6_3:Int} {m2_3_0:(List ByteArray)} {m2_3_1:Int} {m2_3_2:(List TEdge)} {m2_6_0:(List Int)} {m2_6_1:(List Int)} {m2_6_2:(List Int)} {m2_6_3:Int} {m2_8_0:(List Int)} {m2_8_1:(List Int)} {m2_8_2:(List Int)} {m2_8_3:Int} {m2_9_0:Bool} {m3_3_0:(List ByteArray)} {m3_3_1:Int} {m3_3_2:(List TEdge)} {m3_10_0:Int} {m3_10_1:(List Int)} {m3_10_2:(List Int)} {m3_10_3:Int} {m3_10_4:Int} {m3_13_0:(List Int)} {m3_13_1:(List Int)} {m4_4_0:(List Int)} {m4_4_1:(List Int)} {m4_4_2:(List Int)} {m4_4_3:Int} {mem:Mem} (hT:Tight 4 mem) (hq0:mem (1,3)=some [cL .shr m1_3_0,cI m1_3_1,cL .shr m1_3_2]∧mem (1,5)=some [cI m1_5_0,cI m1_5_1]∧mem (1,6)=some [cL .own m1_6_0,cL .own m1_6_1,cL .own m1_6_2,cI m1_6_3]∧mem (2,3)=some [cL .shr m2_3_0,cI m2_3_1,cL .shr m2_3_2]∧mem (2,5)=some [.fn 74 [((1,5),0)]]∧mem (2,6)=some [cL .own m2_6_0,cL .own m2_6_1,cL .own m2_6_2,cI m2_6_3]∧mem (2,8)=some [cL .own m2_8_0,cL .own m2_8_1,cL .own m2_8_2,cI m2_8_3]∧mem (2,9)=some [cB m2_9_0]∧mem (3,3)=some [cL .shr m3_3_0,cI m3_3_1,cL .shr m3_3_2]∧mem (3,10)=some [cI m3_10_0,cL .shr m3_10_1,cL .shr m3_10_2,cI m3_10_3,cI m3_10_4]∧mem (3,13)=some [cL .own m3_13_0,cL .own m3_13_1]∧mem (3,15)=some [.dead,.dead,.dead,.dead]∧mem (4,4)=some [cL .own m4_4_0,cL .own m4_4_1,cL .own m4_4_2,cI m4_4_3]) (hn0:NoBox [(1,3),(1,5),(1,6),(2,3),(2,5),(2,6),(2,8),(2,9),(3,3),(3,10),(3,13),(3,15),(4,4)] mem) {y} (hp:impl_ConfirmAlarm_1 f_ m1_5_0 m1_5_1=some y):∃ m,callo g42 4 74 [av .bor f_,.one (.ptr (1,5) 0)] mem=some (Res.res y,m)∧((m (1,3)=some [cL .shr m1_3_0,cI m1_3_1,cL .shr m1_3_2]∧m (1,5)=some [cI m1_5_0,cI m1_5_1]∧m (1,6)=some [cL .own m1_6_0,cL .own m1_6_1,cL .own m1_6_2,cI m1_6_3]∧m (2,3)=some [cL .shr m2_3_0,cI m2_3_1,cL .shr m2_3_2]∧m (2,5)=some [.fn 74 [((1,5),0)]]∧m (2,6)=some [cL .own m2_6_0,cL .own m2_6_1,cL .own m2_6_2,cI m2_6_3]∧m (2,8)=some [cL .own m2_8_0,cL .own m2_8_1,cL .own m2_8_2,cI m2_8_3]∧m (2,9)=some [cB m2_9_0]∧m (3,3)=some [cL .shr m3_3_0,cI m3_3_1,cL .shr m3_3_2]∧m (3,10)=some [cI m3_10_0,cL .shr m3_10_1,cL .shr m3_10_2,cI m3_10_3,cI m3_10_4]∧m (3,13)=some [cL .own m3_13_0,cL .own m3_13_1]∧m (3,15)=some [.dead,.dead,.dead,.dead]∧m (4,4)=some [cL .own m4_4_0,cL .own m4_4_1,cL .own m4_4_2,cI m4_4_3])∧Tight 4 m∧NoBox [(1,3),(1,5),(1,6),(2,3),(2,5),(2,6),(2,8),(2,9),(3,3),(3,10),(3,13),(3,15),(4,4)] m):=by
 refine stD [.tmp 3] Tryz.func74 fun QV QV_=>?_
 unfold impl_ConfirmAlarm_1 at hp
 have n_1:=hn0 (5,2) (by simp)
 obtain ⟨e_2,h_3,hp⟩:=zab hp
 have b_4:=at_lo h_3
 have b_5:=at_hi h_3
 try simp at b_4 b_5
 have c_6:=seg_at' h_3 0 1 (by decide) (ds:=[.sc (.int .i64 e_2)]) rfl
 try simp at c_6
 simp [Tryz.f74,hq0,n_1,b_4,b_5,c_6]
 rcases zad hp with ⟨h_7,hp⟩|⟨h_7,hp⟩
 ·try simp at h_7
  cases hp
  simp [Goal,FnEndD,retR,rsrc,RSrc.val,nodupR,nodup,tupPart,hq0,h_7]
  rw [QV_]
  exact ⟨by simp [hq0,h_7],tight_end _ _,nobox_end (L':=[(1,3),(1,5),(1,6),(2,3),(2,5),(2,6),(2,8),(2,9),(3,3),(3,10),(3,13),(3,15),(4,4),(5,2)]) (by intro k hk;simp at hk;simp [hk,hq0,h_7,hn0 k (by simp [hk])]) (by simp)⟩
 ·try simp at h_7
  cases hp
  simp [Goal,FnEndD,retR,rsrc,RSrc.val,nodupR,nodup,tupPart,hq0,h_7]
  rw [QV_]
  exact ⟨by simp [hq0,h_7],tight_end _ _,nobox_end (L':=[(1,3),(1,5),(1,6),(2,3),(2,5),(2,6),(2,8),(2,9),(3,3),(3,10),(3,13),(3,15),(4,4),(5,2)]) (by intro k hk;simp at hk;simp [hk,hq0,h_7,hn0 k (by simp [hk])]) (by simp)⟩

theorem wD123 {f_:TFailure} {m1_5_0:Int} {m1_5_1:Int} {m2_8_0:(List Int)} {m2_8_1:(List Int)} {m2_8_2:(List Int)} {m2_8_3:Int} {m2_9_0:Bool} {m1_3_0:(List ByteArray)} {m1_3_1:Int} {m1_3_2:(List TEdge)} {m1_6_0:(List Int)} {m1_6_1:(List Int)} {m1_6_2:(List Int)} {m1_6_3:Int} {m2_3_0:(List ByteArray)} {m2_3_1:Int} {m2_3_2:(List TEdge)} {m2_6_0:(List Int)} {m2_6_1:(List Int)} {m2_6_2:(List Int)} {m2_6_3:Int} {m3_3_0:(List ByteArray)} {m3_3_1:Int} {m3_3_2:(List TEdge)} {m3_10_0:Int} {m3_10_1:(List Int)} {m3_10_2:(List Int)} {m3_10_3:Int} {m3_10_4:Int} {m3_13_0:(List Int)} {m3_13_1:(List Int)} {mem:Mem} (hT:Tight 3 mem) (hq0:mem (1,3)=some [cL .shr m1_3_0,cI m1_3_1,cL .shr m1_3_2]∧mem (1,5)=some [cI m1_5_0,cI m1_5_1]∧mem (1,6)=some [cL .own m1_6_0,cL .own m1_6_1,cL .own m1_6_2,cI m1_6_3]∧mem (2,3)=some [cL .shr m2_3_0,cI m2_3_1,cL .shr m2_3_2]∧mem (2,5)=some [.fn 74 [((1,5),0)]]∧mem (2,6)=some [cL .own m2_6_0,cL .own m2_6_1,cL .own m2_6_2,cI m2_6_3]∧mem (2,8)=some [cL .own m2_8_0,cL .own m2_8_1,cL .own m2_8_2,cI m2_8_3]∧mem (2,9)=some [cB m2_9_0]∧mem (3,3)=some [cL .shr m3_3_0,cI m3_3_1,cL .shr m3_3_2]∧mem (3,10)=some [cI m3_10_0,cL .shr m3_10_1,cL .shr m3_10_2,cI m3_10_3,cI m3_10_4]∧mem (3,13)=some [cL .own m3_13_0,cL .own m3_13_1]∧mem (3,15)=some [.dead,.dead,.dead,.dead]) (hn0:NoBox [(1,3),(1,5),(1,6),(2,3),(2,5),(2,6),(2,8),(2,9),(3,3),(3,10),(3,13),(3,15)] mem) {y} (hp:impl_firstFailure_1 f_ m1_5_0 m1_5_1 m2_8_0 m2_8_1 m2_8_2 m2_8_3 m2_9_0=some y):∃ m,callo g42 3 123 [av .own f_,.one (.ptr (2,5) 0),.one (.ptr (2,8) 0),.one (.ptr (2,9) 0)] mem=some (Res.res y.1,m)∧((m (1,3)=some [cL .shr m1_3_0,cI m1_3_1,cL .shr m1_3_2]∧m (1,5)=some [cI m1_5_0,cI m1_5_1]∧m (1,6)=some [cL .own m1_6_0,cL .own m1_6_1,cL .own m1_6_2,cI m1_6_3]∧m (2,3)=some [cL .shr m2_3_0,cI m2_3_1,cL .shr m2_3_2]∧m (2,5)=some [.fn 74 [((1,5),0)]]∧m (2,6)=some [cL .own m2_6_0,cL .own m2_6_1,cL .own m2_6_2,cI m2_6_3]∧m (2,8)=some [cL .own y.2.1,cL .own y.2.2.1,cL .own y.2.2.2.1,cI y.2.2.2.2.1]∧m (2,9)=some [cB y.2.2.2.2.2]∧m (3,3)=some [cL .shr m3_3_0,cI m3_3_1,cL .shr m3_3_2]∧m (3,10)=some [cI m3_10_0,cL .shr m3_10_1,cL .shr m3_10_2,cI m3_10_3,cI m3_10_4]∧m (3,13)=some [cL .own m3_13_0,cL .own m3_13_1]∧m (3,15)=some [.dead,.dead,.dead,.dead])∧Tight 3 m∧NoBox [(1,3),(1,5),(1,6),(2,3),(2,5),(2,6),(2,8),(2,9),(3,3),(3,10),(3,13),(3,15)] m):=by
 refine stD [.tmp 5] Tryz.func123 fun QV QV_=>?_
 unfold impl_firstFailure_1 at hp
 have n_1:=hn0 (4,4) (by simp)
 obtain ⟨y_4,h_5,hp⟩:=zab hp
 simp [Tryz.f123,hq0,n_1]
 refine goal_callD [av .bor f_,.one (.ptr (1,5) 0)] (by simp [hq0]) (wD74 (m1_3_0:=m1_3_0) (m1_3_1:=m1_3_1) (m1_3_2:=m1_3_2) (m1_5_0:=m1_5_0) (m1_5_1:=m1_5_1) (m1_6_0:=m1_6_0) (m1_6_1:=m1_6_1) (m1_6_2:=m1_6_2) (m1_6_3:=m1_6_3) (m2_3_0:=m2_3_0) (m2_3_1:=m2_3_1) (m2_3_2:=m2_3_2) (m2_6_0:=m2_6_0) (m2_6_1:=m2_6_1) (m2_6_2:=m2_6_2) (m2_6_3:=m2_6_3) (m2_8_0:=m2_8_0) (m2_8_1:=m2_8_1) (m2_8_2:=m2_8_2) (m2_8_3:=m2_8_3) (m2_9_0:=m2_9_0) (m3_3_0:=m3_3_0) (m3_3_1:=m3_3_1) (m3_3_2:=m3_3_2) (m3_10_0:=m3_10_0) (m3_10_1:=m3_10_1) (m3_10_2:=m3_10_2) (m3_10_3:=m3_10_3) (m3_10_4:=m3_10_4) (m3_13_0:=m3_13_0) (m3_13_1:=m3_13_1) (m4_4_0:=f_.heap.vars) (m4_4_1:=f_.heap.next) (m4_4_2:=f_.edges) (m4_4_3:=f_.code) (by repeat (first | exact zag _ | exact hT.up | exact hT | (simp only [true_and];done) | refine Tight.upd ?_ (by simp) (by simp) | refine Tight.killB ?_ | refine zak ?_)) (by simp [hq0]) (by intro k hk;simp at hk;simp [hk,hq0,hn0 k (by simp [hk])]) h_5) ?_
 rintro mm_6 ⟨q_7,ht_8,hn_9⟩
 try simp [hq0,q_7]
 rcases zad hp with ⟨h_10,hp⟩|⟨h_10,hp⟩
 ·try simp at h_10
  cases hp
  simp [Goal,FnEndD,retR,rsrc,RSrc.val,nodupR,nodup,tupPart,hq0,q_7,h_10]
  rw [QV_]
  exact ⟨by simp [hq0,q_7,h_10],tight_end _ _,nobox_end (L':=[(1,3),(1,5),(1,6),(2,3),(2,5),(2,6),(2,8),(2,9),(3,3),(3,10),(3,13),(3,15),(4,4)]) (by intro k hk;simp at hk;simp [hk,hq0,q_7,h_10,hn_9 k (by simp [hk])]) (by simp)⟩
 ·try simp at h_10
  cases hp
  simp [Goal,FnEndD,retR,rsrc,RSrc.val,nodupR,nodup,tupPart,hq0,q_7,h_10]
  rw [QV_]
  exact ⟨by simp [hq0,q_7,h_10],tight_end _ _,nobox_end (L':=[(1,3),(1,5),(1,6),(2,3),(2,5),(2,6),(2,8),(2,9),(3,3),(3,10),(3,13),(3,15),(4,4)]) (by intro k hk;simp at hk;simp [hk,hq0,q_7,h_10,hn_9 k (by simp [hk])]) (by simp)⟩

theorem wD66 {p_:TProgram} {start:(List THeap)} {m1_5_0:Int} {m1_5_1:Int} {m2_8_0:(List Int)} {m2_8_1:(List Int)} {m2_8_2:(List Int)} {m2_8_3:Int} {m2_9_0:Bool} {m1_3_0:(List ByteArray)} {m1_3_1:Int} {m1_3_2:(List TEdge)} {m1_6_0:(List Int)} {m1_6_1:(List Int)} {m1_6_2:(List Int)} {m1_6_3:Int} {m2_3_0:(List ByteArray)} {m2_3_1:Int} {m2_3_2:(List TEdge)} {m2_6_0:(List Int)} {m2_6_1:(List Int)} {m2_6_2:(List Int)} {m2_6_3:Int} {mem:Mem} (hT:Tight 2 mem) (hq0:mem (1,3)=some [cL .shr m1_3_0,cI m1_3_1,cL .shr m1_3_2]∧mem (1,5)=some [cI m1_5_0,cI m1_5_1]∧mem (1,6)=some [cL .own m1_6_0,cL .own m1_6_1,cL .own m1_6_2,cI m1_6_3]∧mem (2,3)=some [cL .shr m2_3_0,cI m2_3_1,cL .shr m2_3_2]∧mem (2,5)=some [.fn 74 [((1,5),0)]]∧mem (2,6)=some [cL .own m2_6_0,cL .own m2_6_1,cL .own m2_6_2,cI m2_6_3]∧mem (2,8)=some [cL .own m2_8_0,cL .own m2_8_1,cL .own m2_8_2,cI m2_8_3]∧mem (2,9)=some [cB m2_9_0]) (hn0:NoBox [(1,3),(1,5),(1,6),(2,3),(2,5),(2,6),(2,8),(2,9)] mem) {y} (hp:impl_failures p_ start m1_5_0 m1_5_1 m2_8_0 m2_8_1 m2_8_2 m2_8_3 m2_9_0=some y):∃ m,callo g42 2 66 [av .shr p_,av .shr start,.one (.fn 123 [((2,5),0),((2,8),0),((2,9),0)])] mem=some (Res.res y.1,m)∧((m (1,3)=some [cL .shr m1_3_0,cI m1_3_1,cL .shr m1_3_2]∧m (1,5)=some [cI m1_5_0,cI m1_5_1]∧m (1,6)=some [cL .own m1_6_0,cL .own m1_6_1,cL .own m1_6_2,cI m1_6_3]∧m (2,3)=some [cL .shr m2_3_0,cI m2_3_1,cL .shr m2_3_2]∧m (2,5)=some [.fn 74 [((1,5),0)]]∧m (2,6)=some [cL .own m2_6_0,cL .own m2_6_1,cL .own m2_6_2,cI m2_6_3]∧m (2,8)=some [cL .own y.2.1,cL .own y.2.2.1,cL .own y.2.2.2.1,cI y.2.2.2.2.1]∧m (2,9)=some [cB y.2.2.2.2.2])∧Tight 2 m∧NoBox [(1,3),(1,5),(1,6),(2,3),(2,5),(2,6),(2,8),(2,9)] m):=by
 refine stD [.tmp 6] Tryz.func66 fun QV QV_=>?_
 unfold impl_failures at hp
 have n_1:=hn0 (3,3) (by simp)
 obtain ⟨y_2,h_3,hp⟩:=zab hp
 have c_4:=C69_eq h_3
 simp at c_4
 simp [Tryz.f66,hq0,n_1,c_4]
 rcases zad hp with ⟨h_5,hp⟩|⟨h_5,hp⟩
 ·try simp at h_5
  try simp [hq0,h_5]
  obtain ⟨r_120,h_121,hp⟩:=zab hp
  obtain ⟨I_8,I_8_⟩:=exV fun (s_6:Int × (List Int) × (List Int) × (List Int) × Int × Bool) (σ:St)=>(σ.env 2=.one (.fn 123 [((2,5),0),((2,8),0),((2,9),0)])∧σ.env 3=uP (3,3)∧σ.env 7=uL .shr y_2.1∧σ.env 25=uL .shr y_2.1∧σ.env 26=uI (y_2.1.length:Int)∧σ.env 27=uI s_6.1∧σ.mem (1,3)=some [cL .shr m1_3_0,cI m1_3_1,cL .shr m1_3_2]∧σ.mem (1,5)=some [cI m1_5_0,cI m1_5_1]∧σ.mem (1,6)=some [cL .own m1_6_0,cL .own m1_6_1,cL .own m1_6_2,cI m1_6_3]∧σ.mem (2,3)=some [cL .shr m2_3_0,cI m2_3_1,cL .shr m2_3_2]∧σ.mem (2,5)=some [.fn 74 [((1,5),0)]]∧σ.mem (2,6)=some [cL .own m2_6_0,cL .own m2_6_1,cL .own m2_6_2,cI m2_6_3]∧σ.mem (2,8)=some [cL .own s_6.2.1,cL .own s_6.2.2.1,cL .own s_6.2.2.2.1,cI s_6.2.2.2.2.1]∧σ.mem (2,9)=some [cB s_6.2.2.2.2.2]∧σ.mem (3,3)=some [cL .shr p_.vars,cI p_.points,cL .shr p_.edges])∧Tight (3) σ.mem∧NoBox [(1,3),(1,5),(1,6),(2,3),(2,5),(2,6),(2,8),(2,9),(3,3)] σ.mem
  obtain ⟨X_9,X_9_⟩:=exV fun (r_120:(Bool × (List Int) × (List Int) × (List Int) × Int × Bool) ⊕ ((List Int) × (List Int) × (List Int) × Int × Bool)) (out:Out)=>Sum.elim (fun r_120=>∃ σ:St,out=.ret σ∧(σ.env 6=uB r_120.1∧σ.mem (1,3)=some [cL .shr m1_3_0,cI m1_3_1,cL .shr m1_3_2]∧σ.mem (1,5)=some [cI m1_5_0,cI m1_5_1]∧σ.mem (1,6)=some [cL .own m1_6_0,cL .own m1_6_1,cL .own m1_6_2,cI m1_6_3]∧σ.mem (2,3)=some [cL .shr m2_3_0,cI m2_3_1,cL .shr m2_3_2]∧σ.mem (2,5)=some [.fn 74 [((1,5),0)]]∧σ.mem (2,6)=some [cL .own m2_6_0,cL .own m2_6_1,cL .own m2_6_2,cI m2_6_3]∧σ.mem (2,8)=some [cL .own r_120.2.1,cL .own r_120.2.2.1,cL .own r_120.2.2.2.1,cI r_120.2.2.2.2.1]∧σ.mem (2,9)=some [cB r_120.2.2.2.2.2]∧σ.mem (3,3)=some [cL .shr p_.vars,cI p_.points,cL .shr p_.edges])∧Tight (3) σ.mem∧NoBox [(1,3),(1,5),(1,6),(2,3),(2,5),(2,6),(2,8),(2,9),(3,3)] σ.mem) (fun r_120=>∃ σ:St,out=.exit 0 σ∧(σ.mem (1,3)=some [cL .shr m1_3_0,cI m1_3_1,cL .shr m1_3_2]∧σ.mem (1,5)=some [cI m1_5_0,cI m1_5_1]∧σ.mem (1,6)=some [cL .own m1_6_0,cL .own m1_6_1,cL .own m1_6_2,cI m1_6_3]∧σ.mem (2,3)=some [cL .shr m2_3_0,cI m2_3_1,cL .shr m2_3_2]∧σ.mem (2,5)=some [.fn 74 [((1,5),0)]]∧σ.mem (2,6)=some [cL .own m2_6_0,cL .own m2_6_1,cL .own m2_6_2,cI m2_6_3]∧σ.mem (2,8)=some [cL .own r_120.1,cL .own r_120.2.1,cL .own r_120.2.2.1,cI r_120.2.2.2.1]∧σ.mem (2,9)=some [cB r_120.2.2.2.2]∧σ.mem (3,3)=some [cL .shr p_.vars,cI p_.points,cL .shr p_.edges])∧Tight (3) σ.mem∧NoBox [(1,3),(1,5),(1,6),(2,3),(2,5),(2,6),(2,8),(2,9),(3,3)] σ.mem) r_120
  refine loopP ({ hd:=[2,3,7,25,26,27],bx:=[10,13,15],ex:=[],rt:=[6] }) I_8 X_9 h_121 (by exact rfl) ?_ ?_ ?_
  ·rw [I_8_]
   exact ⟨by simp [zac,zaa,hq0,h_5],(by repeat (first | exact zag _ | exact hT.up | exact hT | refine Tight.restrict ?_ | refine Tight.upd ?_ (by simp) (by simp) | refine Tight.killB ?_ | refine zak ?_)),NoBox.restrict (by intro k hk hb;simp at hk hb;simp [hk,hb,hq0,h_5,hn0 k (by simp [hk,hb])])⟩
  ·intro s_6 σ_10 a_7 hI hp
   rw [I_8_] at hI
   obtain ⟨q_13,ht_11,hn_12⟩:=hI
   try simp [hq0,h_5,q_13]
   rcases zad hp with ⟨h_14,hp⟩|⟨h_14,hp⟩
   ·try simp at h_14
    obtain ⟨e_15,h_16,hp⟩:=zab hp
    have b_17:=at_lo h_16
    have b_18:=at_hi h_16
    try simp at b_17 b_18
    have c_19:=seg_at' h_16 0 5 (by decide) (ds:=[.sc (.int .i64 e_15.state.point),.sl e_15.state.heap.vars.length (encL e_15.state.heap.vars),.sl e_15.state.heap.next.length (encL e_15.state.heap.next),.sc (.int .i64 e_15.from_),.sc (.int .i64 e_15.edge)]) rfl
    try simp at c_19
    have n_20:=hn_12 (3,10) (by simp)
    obtain ⟨y_21,h_22,hp⟩:=zab hp
    have c_23:=C111_eq h_22
    simp at c_23
    try simp [hq0,h_5,q_13,h_14,b_17,b_18,c_19,n_20,c_23]
    obtain ⟨r_110,h_111,hp⟩:=zab hp
    obtain ⟨I_26,I_26_⟩:=exV fun (s_24:Int × (List Int) × (List Int) × (List Int) × Int × Bool) (σ:St)=>(σ.env 2=.one (.fn 123 [((2,5),0),((2,8),0),((2,9),0)])∧σ.env 3=uP (3,3)∧σ.env 7=uL .shr y_2.1∧σ.env 9=uI s_6.1∧σ.env 10=uP (3,10)∧σ.env 25=uL .shr y_2.1∧σ.env 26=uI (y_2.1.length:Int)∧σ.env 27=uI s_6.1∧σ.env 36=uL .own y_21∧σ.env 37=uI (y_21.length:Int)∧σ.env 38=uI s_24.1∧σ.mem (1,3)=some [cL .shr m1_3_0,cI m1_3_1,cL .shr m1_3_2]∧σ.mem (1,5)=some [cI m1_5_0,cI m1_5_1]∧σ.mem (1,6)=some [cL .own m1_6_0,cL .own m1_6_1,cL .own m1_6_2,cI m1_6_3]∧σ.mem (2,3)=some [cL .shr m2_3_0,cI m2_3_1,cL .shr m2_3_2]∧σ.mem (2,5)=some [.fn 74 [((1,5),0)]]∧σ.mem (2,6)=some [cL .own m2_6_0,cL .own m2_6_1,cL .own m2_6_2,cI m2_6_3]∧σ.mem (2,8)=some [cL .own s_24.2.1,cL .own s_24.2.2.1,cL .own s_24.2.2.2.1,cI s_24.2.2.2.2.1]∧σ.mem (2,9)=some [cB s_24.2.2.2.2.2]∧σ.mem (3,3)=some [cL .shr p_.vars,cI p_.points,cL .shr p_.edges]∧σ.mem (3,10)=some [cI e_15.state.point,cL .shr e_15.state.heap.vars,cL .shr e_15.state.heap.next,cI e_15.from_,cI e_15.edge])∧Tight (3) σ.mem∧NoBox [(1,3),(1,5),(1,6),(2,3),(2,5),(2,6),(2,8),(2,9),(3,3),(3,10)] σ.mem
    obtain ⟨X_27,X_27_⟩:=exV fun (r_110:(Bool × (List Int) × (List Int) × (List Int) × Int × Bool) ⊕ ((List Int) × (List Int) × (List Int) × Int × Bool)) (out:Out)=>Sum.elim (fun r_110=>∃ σ:St,out=.ret σ∧(σ.env 6=uB r_110.1∧σ.mem (1,3)=some [cL .shr m1_3_0,cI m1_3_1,cL .shr m1_3_2]∧σ.mem (1,5)=some [cI m1_5_0,cI m1_5_1]∧σ.mem (1,6)=some [cL .own m1_6_0,cL .own m1_6_1,cL .own m1_6_2,cI m1_6_3]∧σ.mem (2,3)=some [cL .shr m2_3_0,cI m2_3_1,cL .shr m2_3_2]∧σ.mem (2,5)=some [.fn 74 [((1,5),0)]]∧σ.mem (2,6)=some [cL .own m2_6_0,cL .own m2_6_1,cL .own m2_6_2,cI m2_6_3]∧σ.mem (2,8)=some [cL .own r_110.2.1,cL .own r_110.2.2.1,cL .own r_110.2.2.2.1,cI r_110.2.2.2.2.1]∧σ.mem (2,9)=some [cB r_110.2.2.2.2.2]∧σ.mem (3,3)=some [cL .shr p_.vars,cI p_.points,cL .shr p_.edges]∧σ.mem (3,10)=some [cI e_15.state.point,cL .shr e_15.state.heap.vars,cL .shr e_15.state.heap.next,cI e_15.from_,cI e_15.edge])∧Tight (3) σ.mem∧NoBox [(1,3),(1,5),(1,6),(2,3),(2,5),(2,6),(2,8),(2,9),(3,3),(3,10)] σ.mem) (fun r_110=>∃ σ:St,out=.exit 2 σ∧(σ.env 2=.one (.fn 123 [((2,5),0),((2,8),0),((2,9),0)])∧σ.env 3=uP (3,3)∧σ.env 7=uL .shr y_2.1∧σ.env 25=uL .shr y_2.1∧σ.env 26=uI (y_2.1.length:Int)∧σ.env 27=uI s_6.1∧σ.mem (1,3)=some [cL .shr m1_3_0,cI m1_3_1,cL .shr m1_3_2]∧σ.mem (1,5)=some [cI m1_5_0,cI m1_5_1]∧σ.mem (1,6)=some [cL .own m1_6_0,cL .own m1_6_1,cL .own m1_6_2,cI m1_6_3]∧σ.mem (2,3)=some [cL .shr m2_3_0,cI m2_3_1,cL .shr m2_3_2]∧σ.mem (2,5)=some [.fn 74 [((1,5),0)]]∧σ.mem (2,6)=some [cL .own m2_6_0,cL .own m2_6_1,cL .own m2_6_2,cI m2_6_3]∧σ.mem (2,8)=some [cL .own r_110.1,cL .own r_110.2.1,cL .own r_110.2.2.1,cI r_110.2.2.2.1]∧σ.mem (2,9)=some [cB r_110.2.2.2.2]∧σ.mem (3,3)=some [cL .shr p_.vars,cI p_.points,cL .shr p_.edges]∧σ.mem (3,10)=some [cI e_15.state.point,cL .shr e_15.state.heap.vars,cL .shr e_15.state.heap.next,cI e_15.from_,cI e_15.edge])∧Tight (3) σ.mem∧NoBox [(1,3),(1,5),(1,6),(2,3),(2,5),(2,6),(2,8),(2,9),(3,3),(3,10)] σ.mem) r_110
    refine loopP ({ hd:=[2,3,7,9,10,25,26,27,36,37,38],bx:=[13,15],ex:=[2,3,7,25,26,27],rt:=[6] }) I_26 X_27 h_111 (by exact rfl) ?_ ?_ ?_
    ·rw [I_26_]
     exact ⟨by simp [zac,zaa,hq0,h_5,q_13,h_14],(by repeat (first | exact ht_11 | exact zag _ | exact hT.up | exact hT | refine Tight.restrict ?_ | refine Tight.upd ?_ (by simp) (by simp) | refine Tight.killB ?_ | refine zak ?_)),NoBox.restrict (by intro k hk hb;simp at hk hb;simp [hk,hb,hq0,h_5,q_13,h_14,hn_12 k (by simp [hk,hb])])⟩
    ·intro s_24 σ_28 a_25 hI hp
     rw [I_26_] at hI
     obtain ⟨q_31,ht_29,hn_30⟩:=hI
     try simp [hq0,h_5,h_14,q_31]
     rcases zad hp with ⟨h_32,hp⟩|⟨h_32,hp⟩
     ·try simp at h_32
      obtain ⟨e_33,h_34,hp⟩:=zab hp
      have b_35:=at_lo h_34
      have b_36:=at_hi h_34
      try simp at b_35 b_36
      have c_37:=seg_at' h_34 0 1 (by decide) (ds:=[.sc (.int .i64 e_33)]) rfl
      try simp at c_37
      obtain ⟨e_38,h_39,hp⟩:=zab hp
      have b_40:=at_lo h_39
      have b_41:=at_hi h_39
      try simp at b_40 b_41
      have c_42:=seg_at' h_39 2 3 (by decide) (ds:=[.sc (.int .i64 e_38.stmt.kind),.sc (.string e_38.stmt.a),.sc (.string e_38.stmt.b)]) rfl
      try simp at c_42
      obtain ⟨y_43,h_44,hp⟩:=zab hp
      have c_45:=C57_eq h_44
      simp at c_45
      have n_46:=hn_30 (3,13) (by simp)
      obtain ⟨y_47,h_48,hp⟩:=zab hp
      have c_49:=C112_eq h_48
      simp at c_49
      try simp [hq0,h_5,h_14,q_31,h_32,b_35,b_36,c_37,b_40,b_41,c_42,c_45,n_46,c_49]
      rcases zad hp with ⟨h_50,hp⟩|⟨h_50,hp⟩
      ·try simp at h_50
       have n_51:=hn_30 (3,15) (by simp)
       try simp [hq0,h_5,h_14,q_31,h_32,h_50,n_51]
       obtain ⟨r_78,h_79,hp⟩:=zab hp
       obtain ⟨I_54,I_54_⟩:=exV fun (s_52:Int × (List Int)) (σ:St)=>(σ.env 2=.one (.fn 123 [((2,5),0),((2,8),0),((2,9),0)])∧σ.env 3=uP (3,3)∧σ.env 7=uL .shr y_2.1∧σ.env 9=uI s_6.1∧σ.env 10=uP (3,10)∧σ.env 15=uP (3,15)∧σ.env 16=uI s_52.1∧σ.env 25=uL .shr y_2.1∧σ.env 26=uI (y_2.1.length:Int)∧σ.env 27=uI s_6.1∧σ.env 36=uL .own y_21∧σ.env 37=uI (y_21.length:Int)∧σ.env 38=uI s_24.1∧σ.mem (1,3)=some [cL .shr m1_3_0,cI m1_3_1,cL .shr m1_3_2]∧σ.mem (1,5)=some [cI m1_5_0,cI m1_5_1]∧σ.mem (1,6)=some [cL .own m1_6_0,cL .own m1_6_1,cL .own m1_6_2,cI m1_6_3]∧σ.mem (2,3)=some [cL .shr m2_3_0,cI m2_3_1,cL .shr m2_3_2]∧σ.mem (2,5)=some [.fn 74 [((1,5),0)]]∧σ.mem (2,6)=some [cL .own m2_6_0,cL .own m2_6_1,cL .own m2_6_2,cI m2_6_3]∧σ.mem (2,8)=some [cL .own s_24.2.1,cL .own s_24.2.2.1,cL .own s_24.2.2.2.1,cI s_24.2.2.2.2.1]∧σ.mem (2,9)=some [cB s_24.2.2.2.2.2]∧σ.mem (3,3)=some [cL .shr p_.vars,cI p_.points,cL .shr p_.edges]∧σ.mem (3,10)=some [cI e_15.state.point,cL .shr e_15.state.heap.vars,cL .shr e_15.state.heap.next,cI e_15.from_,cI e_15.edge]∧σ.mem (3,13)=some [cL .own y_43.1.vars,cL .own y_43.1.next]∧σ.mem (3,15)=some [.l .own 0 [],.l .own 0 [],cL .own s_52.2,cI y_43.2])∧Tight (3) σ.mem∧NoBox [(1,3),(1,5),(1,6),(2,3),(2,5),(2,6),(2,8),(2,9),(3,3),(3,10),(3,13),(3,15)] σ.mem
       obtain ⟨X_55,X_55_⟩:=exV fun (r_78:Int × (List Int)) (out:Out)=>∃ σ:St,out=.exit 4 σ∧(σ.env 2=.one (.fn 123 [((2,5),0),((2,8),0),((2,9),0)])∧σ.env 3=uP (3,3)∧σ.env 7=uL .shr y_2.1∧σ.env 9=uI s_6.1∧σ.env 10=uP (3,10)∧σ.env 15=uP (3,15)∧σ.env 16=uI r_78.1∧σ.env 25=uL .shr y_2.1∧σ.env 26=uI (y_2.1.length:Int)∧σ.env 27=uI s_6.1∧σ.env 36=uL .own y_21∧σ.env 37=uI (y_21.length:Int)∧σ.env 38=uI s_24.1∧σ.mem (1,3)=some [cL .shr m1_3_0,cI m1_3_1,cL .shr m1_3_2]∧σ.mem (1,5)=some [cI m1_5_0,cI m1_5_1]∧σ.mem (1,6)=some [cL .own m1_6_0,cL .own m1_6_1,cL .own m1_6_2,cI m1_6_3]∧σ.mem (2,3)=some [cL .shr m2_3_0,cI m2_3_1,cL .shr m2_3_2]∧σ.mem (2,5)=some [.fn 74 [((1,5),0)]]∧σ.mem (2,6)=some [cL .own m2_6_0,cL .own m2_6_1,cL .own m2_6_2,cI m2_6_3]∧σ.mem (2,8)=some [cL .own s_24.2.1,cL .own s_24.2.2.1,cL .own s_24.2.2.2.1,cI s_24.2.2.2.2.1]∧σ.mem (2,9)=some [cB s_24.2.2.2.2.2]∧σ.mem (3,3)=some [cL .shr p_.vars,cI p_.points,cL .shr p_.edges]∧σ.mem (3,10)=some [cI e_15.state.point,cL .shr e_15.state.heap.vars,cL .shr e_15.state.heap.next,cI e_15.from_,cI e_15.edge]∧σ.mem (3,13)=some [cL .own y_43.1.vars,cL .own y_43.1.next]∧σ.mem (3,15)=some [.l .own 0 [],.l .own 0 [],cL .own r_78.2,cI y_43.2])∧Tight (3) σ.mem∧NoBox [(1,3),(1,5),(1,6),(2,3),(2,5),(2,6),(2,8),(2,9),(3,3),(3,10),(3,13),(3,15)] σ.mem
       refine loopP ({ hd:=[2,3,7,9,10,15,16,25,26,27,36,37,38],bx:=[],ex:=[2,3,7,9,10,15,16,25,26,27,36,37,38],rt:=[6] }) I_54 X_55 h_79 (by exact rfl) ?_ ?_ ?_
       ·rw [I_54_]
        exact ⟨by simp [zac,zaa,hq0,h_5,h_14,q_31,h_32,h_50],(by repeat (first | exact ht_29 | exact zag _ | exact hT.up | exact hT | refine Tight.restrict ?_ | refine Tight.upd ?_ (by simp) (by simp) | refine Tight.killB ?_ | refine zak ?_)),NoBox.restrict (by intro k hk hb;simp at hk hb;simp [hk,hb,hq0,h_5,h_14,q_31,h_32,h_50,hn_30 k (by simp [hk,hb])])⟩
       ·intro s_52 σ_56 a_53 hI hp
        rw [I_54_] at hI
        obtain ⟨q_59,ht_57,hn_58⟩:=hI
        obtain ⟨e_60,h_61,hp⟩:=zab hp
        have b_62:=at_lo h_61
        have b_63:=at_hi h_61
        try simp at b_62 b_63
        have c_64:=seg_at' h_61 3 1 (by decide) (ds:=[.sc (.int .i64 e_60.from_)]) rfl
        try simp at c_64
        try simp [hq0,h_5,h_14,h_32,h_50,q_59,b_62,b_63,c_64]
        rcases zad hp with ⟨h_65,hp⟩|⟨h_65,hp⟩
        ·try simp at h_65
         obtain ⟨e_66,h_67,hp⟩:=zab hp
         cases Option.some.inj (h_61.symm.trans h_67)
         have b_68:=at_lo h_61
         have b_69:=at_hi h_61
         try simp at b_68 b_69
         have c_70:=seg_at' h_61 4 1 (by decide) (ds:=[.sc (.int .i64 e_60.edge)]) rfl
         try simp at c_70
         obtain ⟨_,h_71,hp⟩:=zab hp
         have b_72:=room_ok h_71
         try simp at b_72
         obtain ⟨e_73,h_74,hp⟩:=zab hp
         cases Option.some.inj (h_61.symm.trans h_74)
         have b_75:=at_lo h_61
         have b_76:=at_hi h_61
         try simp at b_75 b_76
         have c_77:=seg_at' h_61 3 1 (by decide) (ds:=[.sc (.int .i64 e_60.from_)]) rfl
         try simp at c_77
         cases hp
         try simp [hq0,h_5,h_14,h_32,h_50,q_59,h_65,b_68,b_69,c_70,b_72,b_75,b_76,c_77]
         refine zah ?_
         rw [I_54_]
         exact ⟨by simp [zac,zaa,hq0,h_5,h_14,h_32,h_50,q_59,h_65,b_68,b_69,c_70,b_72,b_75,b_76,c_77],(by repeat (first | exact ht_57 | exact zag _ | exact hT.up | exact hT | refine Tight.restrict ?_ | refine Tight.upd ?_ (by simp) (by simp) | refine Tight.killB ?_ | refine zak ?_)),NoBox.restrict (by intro k hk hb;simp at hk hb;simp [hk,hb,hq0,h_5,h_14,h_32,h_50,q_59,h_65,b_68,b_69,c_70,b_72,b_75,b_76,c_77,hn_58 k (by simp [hk,hb])])⟩
        ·try simp at h_65
         cases hp
         try simp [hq0,h_5,h_14,h_32,h_50,q_59,h_65]
         refine zal ?_
         rw [X_55_]
         exact ⟨_,rfl,by simp [zac,zaa,hq0,h_5,h_14,h_32,h_50,q_59,h_65],(by repeat (first | exact ht_57 | exact zag _ | exact hT.up | exact hT | refine Tight.restrict ?_ | refine Tight.upd ?_ (by simp) (by simp) | refine Tight.killB ?_ | refine zak ?_)),NoBox.restrict (by intro k hk hb;simp at hk hb;simp [hk,hb,hq0,h_5,h_14,h_32,h_50,q_59,h_65,hn_58 k (by simp [hk,hb])])⟩
       ·intro out hX
        rw [X_55_] at hX
        obtain ⟨σ_80,rfl,q_83,ht_81,hn_82⟩:=hX
        try simp [hq0,h_5,h_14,h_32,h_50,q_83]
        have n_84:=hn_82 (3,1242) (by simp)
        obtain ⟨y_87,h_88,hp⟩:=zab hp
        try simp [hq0,h_5,h_14,h_32,h_50,q_83,n_84]
        refine goal_callD [.one (.bs (3,1242) r_78.2.length 1)] (by simp [hq0,h_5,h_14,h_32,h_50,q_83]) (wD113 (m1_3_0:=m1_3_0) (m1_3_1:=m1_3_1) (m1_3_2:=m1_3_2) (m1_5_0:=m1_5_0) (m1_5_1:=m1_5_1) (m1_6_0:=m1_6_0) (m1_6_1:=m1_6_1) (m1_6_2:=m1_6_2) (m1_6_3:=m1_6_3) (m2_3_0:=m2_3_0) (m2_3_1:=m2_3_1) (m2_3_2:=m2_3_2) (m2_6_0:=m2_6_0) (m2_6_1:=m2_6_1) (m2_6_2:=m2_6_2) (m2_6_3:=m2_6_3) (m2_8_0:=s_24.2.1) (m2_8_1:=s_24.2.2.1) (m2_8_2:=s_24.2.2.2.1) (m2_8_3:=s_24.2.2.2.2.1) (m2_9_0:=s_24.2.2.2.2.2) (m3_3_0:=p_.vars) (m3_3_1:=p_.points) (m3_3_2:=p_.edges) (m3_10_0:=e_15.state.point) (m3_10_1:=e_15.state.heap.vars) (m3_10_2:=e_15.state.heap.next) (m3_10_3:=e_15.from_) (m3_10_4:=e_15.edge) (m3_13_0:=y_43.1.vars) (m3_13_1:=y_43.1.next) (m3_15_0:=[]) (m3_15_1:=[]) (m3_15_3:=y_43.2) (m3_1242:=r_78.2) (by repeat (first | exact ht_81 | exact zag _ | exact hT.up | exact hT | (simp only [q_83];done) | refine Tight.upd ?_ (by simp) (by simp) | refine Tight.killB ?_ | refine zak ?_)) (by simp [hq0,h_5,h_14,h_32,h_50,q_83]) (by intro k hk;simp at hk;simp [hk,hq0,h_5,h_14,h_32,h_50,q_83,hn_82 k (by simp [hk])]) h_88) ?_
        rintro mm_89 ⟨q_90,ht_91,hn_92⟩
        obtain ⟨e_93,h_94,hp⟩:=zab hp
        have b_95:=at_lo h_94
        have b_96:=at_hi h_94
        try simp at b_95 b_96
        have c_97:=seg_at' h_94 1 2 (by decide) (ds:=[.sl e_93.state.heap.vars.length (encL e_93.state.heap.vars),.sl e_93.state.heap.next.length (encL e_93.state.heap.next)]) rfl
        try simp at c_97
        obtain ⟨y_98,h_99,hp⟩:=zab hp
        have c_100:=C55_eq h_99
        simp at c_100
        obtain ⟨y_103,h_104,hp⟩:=zab hp
        try simp [hq0,h_5,h_14,h_32,h_50,q_83,q_90,b_95,b_96,c_97,c_100]
        refine goal_callD [av .own (⟨y_98,y_87,y_43.2⟩:TFailure),.one (.ptr (2,5) 0),.one (.ptr (2,8) 0),.one (.ptr (2,9) 0)] (by simp [hq0,h_5,h_14,h_32,h_50,q_83,q_90]) (wD123 (m1_3_0:=m1_3_0) (m1_3_1:=m1_3_1) (m1_3_2:=m1_3_2) (m1_5_0:=m1_5_0) (m1_5_1:=m1_5_1) (m1_6_0:=m1_6_0) (m1_6_1:=m1_6_1) (m1_6_2:=m1_6_2) (m1_6_3:=m1_6_3) (m2_3_0:=m2_3_0) (m2_3_1:=m2_3_1) (m2_3_2:=m2_3_2) (m2_6_0:=m2_6_0) (m2_6_1:=m2_6_1) (m2_6_2:=m2_6_2) (m2_6_3:=m2_6_3) (m2_8_0:=s_24.2.1) (m2_8_1:=s_24.2.2.1) (m2_8_2:=s_24.2.2.2.1) (m2_8_3:=s_24.2.2.2.2.1) (m2_9_0:=s_24.2.2.2.2.2) (m3_3_0:=p_.vars) (m3_3_1:=p_.points) (m3_3_2:=p_.edges) (m3_10_0:=e_15.state.point) (m3_10_1:=e_15.state.heap.vars) (m3_10_2:=e_15.state.heap.next) (m3_10_3:=e_15.from_) (m3_10_4:=e_15.edge) (m3_13_0:=y_43.1.vars) (m3_13_1:=y_43.1.next) (by repeat (first | exact ht_91 | exact zag _ | exact hT.up | exact hT | (simp only [q_83,q_90];done) | refine Tight.upd ?_ (by simp) (by simp) | refine Tight.killB ?_ | refine zak ?_)) (by simp [hq0,h_5,h_14,h_32,h_50,q_83,q_90]) (by intro k hk;simp at hk;by_cases hz0:k=(3,1242);(simp [hz0,hq0,h_5,h_14,h_32,h_50,q_83,q_90]);simp [hk,hz0,hq0,h_5,h_14,h_32,h_50,q_83,q_90,hn_92 k (by simp [hk,hz0])]) h_104) ?_
        rintro mm_105 ⟨q_106,ht_107,hn_108⟩
        try simp [hq0,h_5,h_14,h_32,h_50,q_83,q_90,q_106]
        rcases zad hp with ⟨h_109,hp⟩|⟨h_109,hp⟩
        ·try simp at h_109
         cases hp
         try simp [hq0,h_5,h_14,h_32,h_50,q_83,q_90,q_106,h_109]
         refine zah ?_
         rw [I_26_]
         exact ⟨by simp [zac,zaa,hq0,h_5,h_14,h_32,h_50,q_83,q_90,q_106,h_109],(by repeat (first | exact ht_107 | exact zag _ | exact hT.up | exact hT | refine Tight.restrict ?_ | refine Tight.upd ?_ (by simp) (by simp) | refine Tight.killB ?_ | refine zak ?_)),NoBox.restrict (by intro k hk hb;simp at hk hb;simp [hk,hb,hq0,h_5,h_14,h_32,h_50,q_83,q_90,q_106,h_109,hn_108 k (by simp [hk,hb])])⟩
        ·try simp at h_109
         cases hp
         try simp [hq0,h_5,h_14,h_32,h_50,q_83,q_90,q_106,h_109]
         refine zao ?_
         rw [X_27_]
         exact ⟨_,rfl,by simp [zac,zaa,hq0,h_5,h_14,h_32,h_50,q_83,q_90,q_106,h_109],(by repeat (first | exact ht_107 | exact zag _ | exact hT.up | exact hT | refine Tight.restrict ?_ | refine Tight.upd ?_ (by simp) (by simp) | refine Tight.killB ?_ | refine zak ?_)),NoBox.restrict (by intro k hk hb;simp at hk hb;simp [hk,hb,hq0,h_5,h_14,h_32,h_50,q_83,q_90,q_106,h_109,hn_108 k (by simp [hk,hb])])⟩
      ·try simp at h_50
       cases hp
       try simp [hq0,h_5,h_14,q_31,h_32,h_50]
       refine zah ?_
       rw [I_26_]
       exact ⟨by simp [zac,zaa,hq0,h_5,h_14,q_31,h_32,h_50],(by repeat (first | exact ht_29 | exact zag _ | exact hT.up | exact hT | refine Tight.restrict ?_ | refine Tight.upd ?_ (by simp) (by simp) | refine Tight.killB ?_ | refine zak ?_)),NoBox.restrict (by intro k hk hb;simp at hk hb;simp [hk,hb,hq0,h_5,h_14,q_31,h_32,h_50,hn_30 k (by simp [hk,hb])])⟩
     ·try simp at h_32
      cases hp
      try simp [hq0,h_5,h_14,q_31,h_32]
      refine zal ?_
      rw [X_27_]
      exact ⟨_,rfl,by simp [zac,zaa,hq0,h_5,h_14,q_31,h_32],(by repeat (first | exact ht_29 | exact zag _ | exact hT.up | exact hT | refine Tight.restrict ?_ | refine Tight.upd ?_ (by simp) (by simp) | refine Tight.killB ?_ | refine zak ?_)),NoBox.restrict (by intro k hk hb;simp at hk hb;simp [hk,hb,hq0,h_5,h_14,q_31,h_32,hn_30 k (by simp [hk,hb])])⟩
    ·intro out hX
     rw [X_27_] at hX
     rcases r_110 with r_110 | r_110
     ·simp only [Sum.elim_inl,Sum.elim_inr] at hX hp
      obtain ⟨σ_112,rfl,q_115,ht_113,hn_114⟩:=hX
      cases hp
      try simp [hq0,h_5,h_14,q_115]
      refine zao ?_
      rw [X_9_]
      exact ⟨_,rfl,by simp [zac,zaa,hq0,h_5,h_14,q_115],(by repeat (first | exact ht_113 | exact zag _ | exact hT.up | exact hT | refine Tight.restrict ?_ | refine Tight.upd ?_ (by simp) (by simp) | refine Tight.killB ?_ | refine zak ?_)),NoBox.restrict (by intro k hk hb;simp at hk hb;simp [hk,hb,hq0,h_5,h_14,q_115,hn_114 k (by simp [hk,hb])])⟩
     ·simp only [Sum.elim_inl,Sum.elim_inr] at hX hp
      obtain ⟨σ_116,rfl,q_119,ht_117,hn_118⟩:=hX
      cases hp
      try simp [hq0,h_5,h_14,q_119]
      refine zah ?_
      rw [I_8_]
      exact ⟨by simp [zac,zaa,hq0,h_5,h_14,q_119],(by repeat (first | exact ht_117 | exact zag _ | exact hT.up | exact hT | refine Tight.restrict ?_ | refine Tight.upd ?_ (by simp) (by simp) | refine Tight.killB ?_ | refine zak ?_)),NoBox.restrict (by intro k hk hb;simp at hk hb;simp [hk,hb,hq0,h_5,h_14,q_119,hn_118 k (by simp [hk,hb])])⟩
   ·try simp at h_14
    cases hp
    try simp [hq0,h_5,q_13,h_14]
    refine zal ?_
    rw [X_9_]
    exact ⟨_,rfl,by simp [zac,zaa,hq0,h_5,q_13,h_14],(by repeat (first | exact ht_11 | exact zag _ | exact hT.up | exact hT | refine Tight.restrict ?_ | refine Tight.upd ?_ (by simp) (by simp) | refine Tight.killB ?_ | refine zak ?_)),NoBox.restrict (by intro k hk hb;simp at hk hb;simp [hk,hb,hq0,h_5,q_13,h_14,hn_12 k (by simp [hk,hb])])⟩
  ·intro out hX
   rw [X_9_] at hX
   rcases r_120 with r_120 | r_120
   ·simp only [Sum.elim_inl,Sum.elim_inr] at hX hp
    obtain ⟨σ_122,rfl,q_125,ht_123,hn_124⟩:=hX
    cases hp
    simp [Goal,FnEndD,retR,rsrc,RSrc.val,nodupR,nodup,tupPart,hq0,h_5,q_125]
    rw [QV_]
    exact ⟨by simp [hq0,h_5,q_125],tight_end _ _,nobox_end (L':=[(1,3),(1,5),(1,6),(2,3),(2,5),(2,6),(2,8),(2,9),(3,3)]) (by intro k hk;simp at hk;simp [hk,hq0,h_5,q_125,hn_124 k (by simp [hk])]) (by simp)⟩
   ·simp only [Sum.elim_inl,Sum.elim_inr] at hX hp
    obtain ⟨σ_126,rfl,q_129,ht_127,hn_128⟩:=hX
    cases hp
    simp [Goal,FnEndD,retR,rsrc,RSrc.val,nodupR,nodup,tupPart,hq0,h_5,q_129]
    rw [QV_]
    exact ⟨by simp [hq0,h_5,q_129],tight_end _ _,nobox_end (L':=[(1,3),(1,5),(1,6),(2,3),(2,5),(2,6),(2,8),(2,9),(3,3)]) (by intro k hk;simp at hk;simp [hk,hq0,h_5,q_129,hn_128 k (by simp [hk])]) (by simp)⟩
 ·try simp at h_5
  cases hp
  simp [Goal,FnEndD,retR,rsrc,RSrc.val,nodupR,nodup,tupPart,hq0,h_5]
  rw [QV_]
  exact ⟨by simp [hq0,h_5],tight_end _ _,nobox_end (L':=[(1,3),(1,5),(1,6),(2,3),(2,5),(2,6),(2,8),(2,9),(3,3)]) (by intro k hk;simp at hk;simp [hk,hq0,h_5,hn0 k (by simp [hk])]) (by simp)⟩

theorem wD72 {p_:TProgram} {start:(List THeap)} {m1_5_0:Int} {m1_5_1:Int} {m1_3_0:(List ByteArray)} {m1_3_1:Int} {m1_3_2:(List TEdge)} {m1_6_0:(List Int)} {m1_6_1:(List Int)} {m1_6_2:(List Int)} {m1_6_3:Int} {mem:Mem} (hT:Tight 1 mem) (hq0:mem (1,3)=some [cL .shr m1_3_0,cI m1_3_1,cL .shr m1_3_2]∧mem (1,5)=some [cI m1_5_0,cI m1_5_1]∧mem (1,6)=some [cL .own m1_6_0,cL .own m1_6_1,cL .own m1_6_2,cI m1_6_3]) (hn0:NoBox [(1,3),(1,5),(1,6)] mem) {y} (hp:impl_firstFailure p_ start m1_5_0 m1_5_1=some y):∃ m,callo g42 1 72 [av .shr p_,av .shr start,.one (.fn 74 [((1,5),0)])] mem=some (Res.res y,m)∧((m (1,3)=some [cL .shr m1_3_0,cI m1_3_1,cL .shr m1_3_2]∧m (1,5)=some [cI m1_5_0,cI m1_5_1]∧m (1,6)=some [cL .own m1_6_0,cL .own m1_6_1,cL .own m1_6_2,cI m1_6_3])∧Tight 1 m∧NoBox [(1,3),(1,5),(1,6)] m):=by
 refine stD [.cell 6 65,.tmp 7] Tryz.func72 fun QV QV_=>?_
 unfold impl_firstFailure at hp
 have n_1:=hn0 (2,3) (by simp)
 have n_2:=hn0 (2,5) (by simp)
 have n_3:=hn0 (2,6) (by simp)
 have n_4:=hn0 (2,8) (by simp)
 have n_5:=hn0 (2,9) (by simp)
 obtain ⟨y_8,h_9,hp⟩:=zab hp
 simp [Tryz.f72,hq0,n_1,n_2,n_3,n_4,n_5]
 refine goal_callD [av .shr p_,av .shr start,.one (.fn 123 [((2,5),0),((2,8),0),((2,9),0)])] (by simp [hq0]) (wD66 (m1_3_0:=m1_3_0) (m1_3_1:=m1_3_1) (m1_3_2:=m1_3_2) (m1_5_0:=m1_5_0) (m1_5_1:=m1_5_1) (m1_6_0:=m1_6_0) (m1_6_1:=m1_6_1) (m1_6_2:=m1_6_2) (m1_6_3:=m1_6_3) (m2_3_0:=p_.vars) (m2_3_1:=p_.points) (m2_3_2:=p_.edges) (m2_6_0:=[]) (m2_6_1:=[]) (m2_6_2:=[]) (m2_6_3:=0) (m2_8_0:=[]) (m2_8_1:=[]) (m2_8_2:=[]) (m2_8_3:=0) (m2_9_0:=false) (by repeat (first | exact zag _ | exact hT.up | exact hT | (simp only [true_and];done) | refine Tight.upd ?_ (by simp) (by simp) | refine Tight.killB ?_ | refine zak ?_)) (by simp [hq0]) (by intro k hk;simp at hk;simp [hk,hq0,hn0 k (by simp [hk])]) h_9) ?_
 rintro mm_10 ⟨q_11,ht_12,hn_13⟩
 cases hp
 simp [Goal,FnEndD,retR,rsrc,RSrc.val,nodupR,nodup,tupPart,hq0,q_11]
 rw [QV_]
 exact ⟨by simp [hq0,q_11],tight_end _ _,nobox_end (L':=[(1,3),(1,5),(1,6),(2,3),(2,5),(2,6),(2,8),(2,9)]) (by intro k hk;simp at hk;simp [hk,hq0,q_11,hn_13 k (by simp [hk])]) (by simp)⟩

theorem w42 {p_ start a_} {y} (hp:impl_ConfirmAlarm p_ start a_=some y):∃ m,callo g42 0 42 [av .shr p_,av .shr start,av .shr a_] mem0=some (Res.res y,m):=by
 refine st0 [.cell 6 65,.tmp 7] Tryz.func42 ?_
 unfold impl_ConfirmAlarm at hp
 obtain ⟨y_3,h_4,hp⟩:=zab hp
 simp [Tryz.f42]
 refine goal_callD [av .shr p_,av .shr start,.one (.fn 74 [((1,5),0)])] (by simp) (wD72 (m1_3_0:=p_.vars) (m1_3_1:=p_.points) (m1_3_2:=p_.edges) (m1_5_0:=a_.edge) (m1_5_1:=a_.code) (m1_6_0:=[]) (m1_6_1:=[]) (m1_6_2:=[]) (m1_6_3:=0) (by repeat (first | exact zag _ | exact hT.up | exact hT | (simp only [true_and];done) | refine Tight.upd ?_ (by simp) (by simp) | refine Tight.killB ?_ | refine zak ?_)) (by simp) (by intro k hk;simp at hk;simp [hk]) h_4) ?_
 rintro mm_5 ⟨q_6,ht_7,hn_8⟩
 cases hp
 simp [Goal,FnEnd,retR,rsrc,RSrc.val,nodupR,nodup,tupPart,q_6]
theorem pc42:PC Tryz.prog 42 C42:=pc_of (g:=g42) (zaj _ g42_s.2.1 ⟨pc55,pc57,pc69,pc111,pc112,trivial⟩) (ent Tryz.func42) fun x y h=>w42 h
end Go.Proofs

