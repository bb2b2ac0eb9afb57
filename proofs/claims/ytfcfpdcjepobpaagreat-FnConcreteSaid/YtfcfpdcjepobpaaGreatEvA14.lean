import Derived.Test.YtfcfpdcjepobpaaGreatEvA13
set_option linter.unusedSimpArgs false
set_option linter.unusedVariables false
set_option linter.unnecessarySimpa false
noncomputable section
set_option maxHeartbeats 4000000
set_option maxRecDepth 100000
namespace Go.Proofs
open Go.Ev
def C163:List AV→Option AV:=specP (X:=TStructure × (List Int) × Unit) fun x=>zga x.1 x.2.1
theorem C163_eq {t to_} {y} (h:zga t to_=some y):C163 [av .shr t,av .shr to_]=some (Res.res y):=zah (x:=(t,to_,())) h
def g163:Cfg:={ P:=Tryz.prog,take:=[],keep:=[((163,2),{ hd:=[1,8,9],bx:=[],ex:=[],rt:=[4] })],gho:=[],ctx:=[(109,C109)] }
@[simp] theorem g163_s:type_of% (cfg_s (g:=g163) rfl):=cfg_s rfl
theorem w163 {t to_} {y} (hp:zga t to_=some y):∃ m,callo g163 0 163 [av .shr t,av .shr to_] mem0=some (Res.res y,m):=by
 refine st0 [.tmp 4] Tryz.func163 ?_
 unfold zga at hp
 simp [Tryz.f163]
 obtain ⟨r_13,h_14,hp⟩:=zab hp
 obtain ⟨I_3,I_3_⟩:=exV fun (s_1:Int) (σ:St)=>(σ.env 1=uL .shr to_∧σ.env 8=uI (t.nodes.length:Int)∧σ.env 9=uI s_1∧σ.mem (1,2)=some [cL .shr t.nodes,cL .shr t.next])∧NoBox [(1,2)] σ.mem
 obtain ⟨X_4,X_4_⟩:=exV fun (r_13:(Unit) ⊕ (Unit)) (out:Out)=>Sum.elim (fun r_13=>∃ σ:St,out=.ret σ∧(σ.env 4=uB false∧σ.mem (1,2)=some [cL .shr t.nodes,cL .shr t.next])∧NoBox [(1,2)] σ.mem) (fun r_13=>∃ σ:St,out=.exit 0 σ∧σ.mem (1,2)=some [cL .shr t.nodes,cL .shr t.next]∧NoBox [(1,2)] σ.mem) r_13
 refine loopP ({ hd:=[1,8,9],bx:=[],ex:=[],rt:=[4] }) I_3 X_4 h_14 (by exact rfl) ?_ ?_ ?_
 ·rw [I_3_]
  exact ⟨by simp [zac,zaa],NoBox.restrict (by intro k hk hb;simp at hk hb;simp [hk,hb])⟩
 ·intro s_1 σ_5 a_2 hI hp
  rw [I_3_] at hI
  obtain ⟨q_7,hn_6⟩:=hI
  try simp [q_7]
  rcases zad hp with ⟨h_8,hp⟩|⟨h_8,hp⟩
  ·try simp at h_8
   obtain ⟨y_9,h_10,hp⟩:=zab hp
   have c_11:=zlz h_10
   simp at c_11
   try simp [q_7,h_8,c_11]
   rcases zad hp with ⟨h_12,hp⟩|⟨h_12,hp⟩
   ·try simp at h_12
    cases hp
    try simp [q_7,h_8,h_12]
    refine zae ?_
    rw [I_3_]
    exact ⟨by simp [zac,zaa,q_7,h_8,h_12],NoBox.restrict (by intro k hk hb;simp at hk hb;simp [hk,hb,q_7,h_8,h_12,hn_6 k (by simp [hk,hb])])⟩
   ·try simp at h_12
    cases hp
    try simp [q_7,h_8,h_12]
    refine zal ?_
    rw [X_4_]
    exact ⟨_,rfl,by simp [zac,zaa,q_7,h_8,h_12],NoBox.restrict (by intro k hk hb;simp at hk hb;simp [hk,hb,q_7,h_8,h_12,hn_6 k (by simp [hk,hb])])⟩
  ·try simp at h_8
   cases hp
   try simp [q_7,h_8]
   refine zag ?_
   rw [X_4_]
   exact ⟨_,rfl,by simp [zac,zaa,q_7,h_8],NoBox.restrict (by intro k hk hb;simp at hk hb;simp [hk,hb,q_7,h_8,hn_6 k (by simp [hk,hb])])⟩
 ·intro out hX
  rw [X_4_] at hX
  rcases r_13 with r_13 | r_13
  ·simp only [Sum.elim_inl,Sum.elim_inr] at hX hp
   obtain ⟨σ_15,rfl,q_17,hn_16⟩:=hX
   cases hp
   simp [Goal,FnEnd,q_17]
  ·simp only [Sum.elim_inl,Sum.elim_inr] at hX hp
   obtain ⟨σ_18,rfl,q_20,hn_19⟩:=hX
   cases hp
   simp [Goal,FnEnd,q_20]
theorem pc163:PC Tryz.prog 163 C163:=pc_of (g:=g163) (zai _ g163_s.2.1 ⟨pc109,trivial⟩) (ent Tryz.func163) fun x y h=>w163 h

def C62:List AV→Option AV:=specP (X:=TStructure × Int × Unit) fun x=>zaw x.1 x.2.1
theorem C62_eq {s i} {y} (h:zaw s i=some y):C62 [av .shr s,av .shr i]=some (Res.res y):=zah (x:=(s,i,())) h
def g62:Cfg:={ P:=Tryz.prog,take:=[],keep:=[],gho:=[],ctx:=[(90,C90)] }
@[simp] theorem g62_s:type_of% (cfg_s (g:=g62) rfl):=cfg_s rfl
theorem w62 {s i} {y} (hp:zaw s i=some y):∃ m,callo g62 0 62 [av .shr s,av .shr i] mem0=some (Res.res y,m):=by
 refine st0 [.tmp 4] Tryz.func62 ?_
 unfold zaw at hp
 obtain ⟨y_1,h_2,hp⟩:=zab hp
 have c_3:=zoz h_2
 simp at c_3
 cases hp
 simp [Tryz.f62,Goal,FnEnd,c_3]
theorem pc62:PC Tryz.prog 62 C62:=pc_of (g:=g62) (zai _ g62_s.2.1 ⟨pc90,trivial⟩) (ent Tryz.func62) fun x y h=>w62 h

def C94:List AV→Option AV:=specP (X:=Int × Unit) fun x=>zes x.1
theorem C94_eq {a_} {y} (h:zes a_=some y):C94 [av .shr a_]=some (Res.res y):=zah (x:=(a_,())) h
def g94:Cfg:={ P:=Tryz.prog,take:=[],keep:=[],gho:=[],ctx:=[(90,C90)] }
@[simp] theorem g94_s:type_of% (cfg_s (g:=g94) rfl):=cfg_s rfl
theorem w94 {a_} {y} (hp:zes a_=some y):∃ m,callo g94 0 94 [av .shr a_] mem0=some (Res.res y,m):=by
 refine st0 [.tmp 2] Tryz.func94 ?_
 unfold zes at hp
 obtain ⟨y_1,h_2,hp⟩:=zab hp
 have c_3:=zoz h_2
 simp at c_3
 cases hp
 simp [Tryz.f94,Goal,FnEnd,c_3]
theorem pc94:PC Tryz.prog 94 C94:=pc_of (g:=g94) (zai _ g94_s.2.1 ⟨pc90,trivial⟩) (ent Tryz.func94) fun x y h=>w94 h

def C172:List AV→Option AV:=specP (X:=Int × Int × Unit) fun x=>zat x.1 x.2.1
theorem zjm {a_ b_} {y} (h:zat a_ b_=some y):C172 [av .shr a_,av .shr b_]=some (Res.res y):=zah (x:=(a_,b_,())) h
def g172:Cfg:={ P:=Tryz.prog,take:=[],keep:=[],gho:=[],ctx:=[(94,C94)] }
@[simp] theorem g172_s:type_of% (cfg_s (g:=g172) rfl):=cfg_s rfl
theorem w172 {a_ b_} {y} (hp:zat a_ b_=some y):∃ m,callo g172 0 172 [av .shr a_,av .shr b_] mem0=some (Res.res y,m):=by
 refine st0 [.tmp 4] Tryz.func172 ?_
 unfold zat at hp
 obtain ⟨y_1,h_2,hp⟩:=zab hp
 have c_3:=C94_eq h_2
 simp at c_3
 simp [Tryz.f172,c_3]
 rcases zad hp with ⟨h_4,hp⟩|⟨h_4,hp⟩
 ·try simp at h_4
  obtain ⟨y_5,h_6,hp⟩:=zab hp
  have c_7:=C94_eq h_6
  simp at c_7
  try simp [h_4,c_7]
  rcases zad hp with ⟨h_8,hp⟩|⟨h_8,hp⟩
  ·try simp at h_8
   try simp [h_4,h_8]
   rcases zad hp with ⟨h_9,hp⟩|⟨h_9,hp⟩
   ·try simp at h_9
    cases hp
    simp [Goal,FnEnd,h_4,h_8,h_9]
   ·try simp at h_9
    cases hp
    simp [Goal,FnEnd,h_4,h_8,h_9]
  ·try simp at h_8
   cases hp
   simp [Goal,FnEnd,h_4,h_8]
 ·try simp at h_4
  cases hp
  simp [Goal,FnEnd,h_4]
theorem pc172:PC Tryz.prog 172 C172:=pc_of (g:=g172) (zai _ g172_s.2.1 ⟨pc94,trivial⟩) (ent Tryz.func172) fun x y h=>w172 h

abbrev G173 (g:Cfg):Prop:=Has Tryz.prog g 173 Tryz.f173 [] [(4,{ hd:=[1,2,15,16,17],bx:=[],ex:=[],rt:=[6] })] [] []
theorem wI173 {g:Cfg} (G:G173 g) {d:Nat} {mem:Mem} (hT:Tight d mem)  {s1:(List Int)} {s2:(List Int)} {eq:(Int→Int→Option (Bool))} {m_0:Md} (hm_0:LentM m_0) {m_1:Md} (hm_1:LentM m_1) {fk_eq:Nat} {caps_eq:List (Key × Nat)} (hl_eq:∀ c∈caps_eq,c.1.1≤d) (hc_eq:Clo g d mem fk_eq caps_eq fun x:Int × Int × Unit=>eq x.1 x.2.1) {y} (hp:zay s1 s2 eq=some y):callo g d 173 [av m_0 s1,av m_1 s2,.one (.fn fk_eq caps_eq)] mem=some (Res.res y,mem):=by
 have gP:=G.P;have gt:=G.tk;have gr:=G.ro;have gg:=G.gh
 have k_4:=G.kp (4,{ hd:=[1,2,15,16,17],bx:=[],ex:=[],rt:=[6] }) (by simp)
 have hT2:memKill (fun k=>decide (d < k.1)) mem=mem:=hT
 refine zgr (Tryz.f173.body.getD .skip) [.tmp 6] G Tryz.func173 (by kernel_rfl) (by simp [Tryz.ntmps173]) rfl ?_
 unfold zay at hp
 simp [Tryz.f173,gP,gt,gr,gg,hm_0.copy,hm_0.elem,hm_1.copy,hm_1.elem]
 rcases zad hp with ⟨h_1,hp⟩|⟨h_1,hp⟩
 ·try simp at h_1
  cases hp
  simp [Goal,FnEndI,zax,gP,gt,gr,gg,hm_0.copy,hm_0.elem,hm_1.copy,hm_1.elem,h_1,hT2]
 ·try simp at h_1
  try simp [gP,gt,gr,gg,hm_0.copy,hm_0.elem,hm_1.copy,hm_1.elem,h_1]
  obtain ⟨r_24,h_25,hp⟩:=zab hp
  obtain ⟨I_4,I_4_⟩:=exV fun (s_2:Int) (σ:St)=>(σ.env 1=uL m_1 s2∧σ.env 15=uL m_0 s1∧σ.env 16=uI (s1.length:Int)∧σ.env 17=uI s_2)∧σ.env 2=.one (.fn fk_eq caps_eq)∧σ.mem=mem
  obtain ⟨X_5,X_5_⟩:=exV fun (r_24:(Unit) ⊕ (Unit)) (out:Out)=>Sum.elim (fun r_24=>∃ σ:St,out=.ret σ∧σ.env 6=uB false∧σ.mem=mem) (fun r_24=>∃ σ:St,out=.exit 0 σ∧σ.mem=mem) r_24
  refine loopP ({ hd:=[1,2,15,16,17],bx:=[],ex:=[],rt:=[6] }) I_4 X_5 h_25 (by exact k_4) ?_ ?_ ?_
  ·rw [I_4_]
   exact ⟨by simp [zac,zaa,gP,gt,gr,gg,hm_0.copy,hm_0.elem,hm_1.copy,hm_1.elem,h_1],by simp [zac,gP,gt,gr,gg,hm_0.copy,hm_0.elem,hm_1.copy,hm_1.elem,h_1] <;> first | (intro x x1 x2 hx;have h0:=hl_eq _ hx;simp at h0;omega) | (intro x hx;have h0:=hl_eq _ hx;simp at h0;omega),by simp [zaa,gP,gt,gr,gg,hm_0.copy,hm_0.elem,hm_1.copy,hm_1.elem,h_1]⟩
  ·intro s_2 σ_6 a_3 hI hp
   rw [I_4_] at hI
   obtain ⟨q_9,q_7,q_8⟩:=hI
   try simp [gP,gt,gr,gg,hm_0.copy,hm_0.elem,hm_1.copy,hm_1.elem,h_1,q_9,q_7,q_8]
   rcases zad hp with ⟨h_10,hp⟩|⟨h_10,hp⟩
   ·try simp at h_10
    obtain ⟨e_11,h_12,hp⟩:=zab hp
    have b_13:=at_lo h_12
    have b_14:=at_hi h_12
    try simp at b_13 b_14
    have c_15:=seg_at' h_12 0 1 (by decide) (ds:=[.sc (.int .i64 e_11)]) rfl
    try simp at c_15
    obtain ⟨e_16,h_17,hp⟩:=zab hp
    have b_18:=at_lo h_17
    have b_19:=at_hi h_17
    try simp at b_18 b_19
    have c_20:=seg_at' h_17 0 1 (by decide) (ds:=[.sc (.int .i64 e_16)]) rfl
    try simp at c_20
    obtain ⟨y_21,h_22,hp⟩:=zab hp
    try simp [gP,gt,gr,gg,hm_0.copy,hm_0.elem,hm_1.copy,hm_1.elem,h_1,q_9,q_7,q_8,h_10,b_13,b_14,c_15,b_18,b_19,c_20]
    refine zez ([av .shr e_11,av .shr e_16] ++ capsAV caps_eq) (Res.res y_21) (by simp [capsAV,gP,gt,gr,gg,hm_0.copy,hm_0.elem,hm_1.copy,hm_1.elem,h_1,q_9,q_7,q_8,h_10]) (hc_eq _ _ _ (e_11,e_16,()) _ (Nat.le_succ d) (fun k hk=>by first | rfl | rw [q_8]) (by repeat (first | exact zan _ | exact hT.up | exact hT | (simp only [q_9,q_7,q_8];done) | refine Tight.upd ?_ (by simp) (by simp) | refine Tight.killB ?_ | refine zar ?_)) ⟨_,_,(.inl rfl),rfl,⟨_,_,(.inl rfl),rfl,rfl⟩⟩ h_22) ?_
    try simp [gP,gt,gr,gg,hm_0.copy,hm_0.elem,hm_1.copy,hm_1.elem,h_1,q_9,q_7,q_8,h_10]
    rcases zad hp with ⟨h_23,hp⟩|⟨h_23,hp⟩
    ·try simp at h_23
     cases hp
     try simp [gP,gt,gr,gg,hm_0.copy,hm_0.elem,hm_1.copy,hm_1.elem,h_1,q_9,q_7,q_8,h_10,h_23]
     refine zae ?_
     rw [I_4_]
     exact ⟨by simp [zac,zaa,gP,gt,gr,gg,hm_0.copy,hm_0.elem,hm_1.copy,hm_1.elem,h_1,q_9,q_7,q_8,h_10,h_23],by simp [zac,gP,gt,gr,gg,hm_0.copy,hm_0.elem,hm_1.copy,hm_1.elem,h_1,q_9,q_7,q_8,h_10,h_23] <;> first | (intro x x1 x2 hx;have h0:=hl_eq _ hx;simp at h0;omega) | (intro x hx;have h0:=hl_eq _ hx;simp at h0;omega),by simp [zaa,gP,gt,gr,gg,hm_0.copy,hm_0.elem,hm_1.copy,hm_1.elem,h_1,q_9,q_7,q_8,h_10,h_23]⟩
    ·try simp at h_23
     cases hp
     try simp [gP,gt,gr,gg,hm_0.copy,hm_0.elem,hm_1.copy,hm_1.elem,h_1,q_9,q_7,q_8,h_10,h_23]
     refine zal ?_
     rw [X_5_]
     exact ⟨_,rfl,by simp [zac,zaa,gP,gt,gr,gg,hm_0.copy,hm_0.elem,hm_1.copy,hm_1.elem,h_1,q_9,q_7,q_8,h_10,h_23],by simp [zaa,gP,gt,gr,gg,hm_0.copy,hm_0.elem,hm_1.copy,hm_1.elem,h_1,q_9,q_7,q_8,h_10,h_23]⟩
   ·try simp at h_10
    cases hp
    try simp [gP,gt,gr,gg,hm_0.copy,hm_0.elem,hm_1.copy,hm_1.elem,h_1,q_9,q_7,q_8,h_10]
    refine zag ?_
    rw [X_5_]
    exact ⟨_,rfl,by simp [zaa,gP,gt,gr,gg,hm_0.copy,hm_0.elem,hm_1.copy,hm_1.elem,h_1,q_9,q_7,q_8,h_10]⟩
  ·intro out hX
   rw [X_5_] at hX
   rcases r_24 with r_24 | r_24
   ·simp only [Sum.elim_inl,Sum.elim_inr] at hX hp
    obtain ⟨σ_26,rfl,q_28,q_27⟩:=hX
    cases hp
    simp [Goal,FnEndI,zax,gP,gt,gr,gg,hm_0.copy,hm_0.elem,hm_1.copy,hm_1.elem,h_1,q_28,q_27,hT2]
   ·simp only [Sum.elim_inl,Sum.elim_inr] at hX hp
    obtain ⟨σ_29,rfl,q_30⟩:=hX
    cases hp
    simp [Goal,FnEndI,zax,gP,gt,gr,gg,hm_0.copy,hm_0.elem,hm_1.copy,hm_1.elem,h_1,q_30,hT2]

def C171:List AV→Option AV:=specP (X:=TNode × TNode × Unit) fun x=>zct x.1 x.2.1
theorem C171_eq {x_ y_} {y} (h:zct x_ y_=some y):C171 [av .shr x_,av .shr y_]=some (Res.res y):=zah (x:=(x_,y_,())) h
def g171:Cfg:={ P:=Tryz.prog,take:=[],keep:=[((173,4),{ hd:=[1,2,15,16,17],bx:=[],ex:=[],rt:=[6] })],gho:=[],ctx:=[(172,C172)] }
@[simp] theorem g171_s:type_of% (cfg_s (g:=g171) rfl):=cfg_s rfl
theorem w171 {x_ y_} {y} (hp:zct x_ y_=some y):∃ m,callo g171 0 171 [av .shr x_,av .shr y_] mem0=some (Res.res y,m):=by
 have G_173:G173 g171:=⟨rfl,by kernel_rfl,rfl,fun t=>by simp,noAway (fun t=>by simp) (by simp) (fun t=>by simp),by simp [lookN],fun i=>by simp [lookK],by simp [g171,lookK],by simp⟩
 refine st0 [.tmp 4] Tryz.func171 ?_
 unfold zct at hp
 obtain ⟨y_1,h_2,hp⟩:=zab hp
 simp [Tryz.f171]
 refine zez [av .shr x_.vars,av .shr y_.vars,.one (.fn 172 [])] (Res.res y_1) (by simp) (wI173 G_173 (by repeat (first | exact zan _ | exact hT.up | exact hT | (simp only [true_and];done) | refine Tight.upd ?_ (by simp) (by simp) | refine Tight.killB ?_ | refine zar ?_)) (.inl rfl) (.inl rfl) (by simp) (clo_ctx (by rfl)) h_2) ?_
 try simp
 rcases zad hp with ⟨h_3,hp⟩|⟨h_3,hp⟩
 ·try simp at h_3
  obtain ⟨y_4,h_5,hp⟩:=zab hp
  try simp [h_3]
  refine zez [av .shr x_.reach,av .shr y_.reach,.one (.fn 172 [])] (Res.res y_4) (by simp [h_3]) (wI173 G_173 (by repeat (first | exact zan _ | exact hT.up | exact hT | (simp only [true_and];done) | refine Tight.upd ?_ (by simp) (by simp) | refine Tight.killB ?_ | refine zar ?_)) (.inl rfl) (.inl rfl) (by simp) (clo_ctx (by rfl)) h_5) ?_
  try simp [h_3]
  rcases zad hp with ⟨h_6,hp⟩|⟨h_6,hp⟩
  ·try simp at h_6
   obtain ⟨y_7,h_8,hp⟩:=zab hp
   have c_9:=zjm h_8
   simp at c_9
   try simp [h_3,h_6,c_9]
   rcases zad hp with ⟨h_10,hp⟩|⟨h_10,hp⟩
   ·try simp at h_10
    obtain ⟨y_11,h_12,hp⟩:=zab hp
    have c_13:=zjm h_12
    simp at c_13
    cases hp
    simp [Goal,FnEnd,h_3,h_6,h_10,c_13]
   ·try simp at h_10
    cases hp
    simp [Goal,FnEnd,h_3,h_6,h_10]
  ·try simp at h_6
   cases hp
   simp [Goal,FnEnd,h_3,h_6]
 ·try simp at h_3
  cases hp
  simp [Goal,FnEnd,h_3]
theorem pc171:PC Tryz.prog 171 C171:=pc_of (g:=g171) (zai _ g171_s.2.1 ⟨pc172,trivial⟩) (ent Tryz.func171) fun x y h=>w171 h

def C99:List AV→Option AV:=specP (X:=TStructure × Int × Int × Unit) fun x=>zbg x.1 x.2.1 x.2.2.1
theorem zix {s i j} {y} (h:zbg s i j=some y):C99 [av .shr s,av .shr i,av .shr j]=some (Res.res y):=zah (x:=(s,i,j,())) h
def g99:Cfg:={ P:=Tryz.prog,take:=[],keep:=[],gho:=[],ctx:=[(62,C62)] }
@[simp] theorem g99_s:type_of% (cfg_s (g:=g99) rfl):=cfg_s rfl
theorem w99 {s i j} {y} (hp:zbg s i j=some y):∃ m,callo g99 0 99 [av .shr s,av .shr i,av .shr j] mem0=some (Res.res y,m):=by
 refine st0 [.tmp 6] Tryz.func99 ?_
 unfold zbg at hp
 obtain ⟨y_1,h_2,hp⟩:=zab hp
 have c_3:=C62_eq h_2
 simp at c_3
 simp [Tryz.f99,c_3]
 rcases zad hp with ⟨h_4,hp⟩|⟨h_4,hp⟩
 ·try simp at h_4
  obtain ⟨y_5,h_6,hp⟩:=zab hp
  have c_7:=C62_eq h_6
  simp at c_7
  try simp [h_4,c_7]
  rcases zad hp with ⟨h_8,hp⟩|⟨h_8,hp⟩
  ·try simp at h_8
   try simp [h_4,h_8]
   rcases zad hp with ⟨h_9,hp⟩|⟨h_9,hp⟩
   ·try simp at h_9
    cases hp
    simp [Goal,FnEnd,h_4,h_8,h_9]
   ·try simp at h_9
    obtain ⟨e_10,h_11,hp⟩:=zab hp
    have b_12:=at_lo h_11
    have b_13:=at_hi h_11
    try simp at b_12 b_13
    have c_14:=seg_at' h_11 0 1 (by decide) (ds:=[.sc (.int .i64 e_10)]) rfl
    try simp at c_14
    cases hp
    simp [Goal,FnEnd,h_4,h_8,h_9,b_12,b_13,c_14]
  ·try simp at h_8
   cases hp
   simp [Goal,FnEnd,h_4,h_8]
 ·try simp at h_4
  cases hp
  simp [Goal,FnEnd,h_4]
theorem pc99:PC Tryz.prog 99 C99:=pc_of (g:=g99) (zai _ g99_s.2.1 ⟨pc62,trivial⟩) (ent Tryz.func99) fun x y h=>w99 h

def C164:List AV→Option AV:=specP (X:=TStructure × TStructure × (List Int) × Unit) fun x=>zeh x.1 x.2.1 x.2.2.1
theorem C164_eq {s t to_} {y} (h:zeh s t to_=some y):C164 [av .shr s,av .shr t,av .shr to_]=some (Res.res y):=zah (x:=(s,t,to_,())) h
def g164:Cfg:={ P:=Tryz.prog,take:=[],keep:=[((164,5),{ hd:=[2,3,4,7,37,38,39],bx:=[],ex:=[],rt:=[6] })],gho:=[],ctx:=[(62,C62),(99,C99),(171,C171),(172,C172)] }
@[simp] theorem g164_s:type_of% (cfg_s (g:=g164) rfl):=cfg_s rfl
theorem w164 {s t to_} {y} (hp:zeh s t to_=some y):∃ m,callo g164 0 164 [av .shr s,av .shr t,av .shr to_] mem0=some (Res.res y,m):=by
 refine st0 [.tmp 6] Tryz.func164 ?_
 unfold zeh at hp
 obtain ⟨e_1,h_2,hp⟩:=zab hp
 have b_3:=at_lo h_2
 have b_4:=at_hi h_2
 try simp at b_3 b_4
 have c_5:=seg_at' h_2 0 1 (by decide) (ds:=[.sc (.int .i64 e_1)]) rfl
 try simp at c_5
 obtain ⟨y_6,h_7,hp⟩:=zab hp
 have c_8:=C62_eq h_7
 simp at c_8
 simp [Tryz.f164,b_3,b_4,c_5,c_8]
 rcases zad hp with ⟨h_9,hp⟩|⟨h_9,hp⟩
 ·try simp at h_9
  obtain ⟨e_10,h_11,hp⟩:=zab hp
  have b_12:=at_lo h_11
  have b_13:=at_hi h_11
  try simp at b_12 b_13
  have c_14:=seg_at' h_11 0 4 (by decide) (ds:=[.sl e_10.vars.length (encL e_10.vars),.sl e_10.reach.length (encL e_10.reach),.sc (.int .i64 e_10.shared),.sc (.int .i64 e_10.many)]) rfl
  try simp at c_14
  obtain ⟨e_15,h_16,hp⟩:=zab hp
  cases Option.some.inj (h_2.symm.trans h_16)
  have b_17:=at_lo h_2
  have b_18:=at_hi h_2
  try simp at b_17 b_18
  have c_19:=seg_at' h_2 0 1 (by decide) (ds:=[.sc (.int .i64 e_1)]) rfl
  try simp at c_19
  obtain ⟨e_20,h_21,hp⟩:=zab hp
  have b_22:=at_lo h_21
  have b_23:=at_hi h_21
  try simp at b_22 b_23
  have c_24:=seg_at' h_21 0 4 (by decide) (ds:=[.sl e_20.vars.length (encL e_20.vars),.sl e_20.reach.length (encL e_20.reach),.sc (.int .i64 e_20.shared),.sc (.int .i64 e_20.many)]) rfl
  try simp at c_24
  obtain ⟨y_25,h_26,hp⟩:=zab hp
  have c_27:=C171_eq h_26
  simp at c_27
  try simp [h_9,b_12,b_13,c_14,b_17,b_18,c_19,b_22,b_23,c_24,c_27]
  rcases zad hp with ⟨h_28,hp⟩|⟨h_28,hp⟩
  ·try simp at h_28
   try simp [h_9,h_28]
   obtain ⟨r_145,h_146,hp⟩:=zab hp
   obtain ⟨I_31,I_31_⟩:=exV fun (s_29:Int) (σ:St)=>(σ.env 2=uL .shr to_∧σ.env 3=uP (1,3)∧σ.env 4=uP (1,4)∧σ.env 7=uI (subI (to_.length:Int) 1)∧σ.env 37=uL .shr to_∧σ.env 38=uI (to_.length:Int)∧σ.env 39=uI s_29∧σ.mem (1,3)=some [cL .shr s.nodes,cL .shr s.next]∧σ.mem (1,4)=some [cL .shr t.nodes,cL .shr t.next])∧NoBox [(1,3),(1,4)] σ.mem
   obtain ⟨X_32,X_32_⟩:=exV fun (r_145:(Unit) ⊕ (Unit)) (out:Out)=>Sum.elim (fun r_145=>∃ σ:St,out=.ret σ∧(σ.env 6=uB false∧σ.mem (1,3)=some [cL .shr s.nodes,cL .shr s.next]∧σ.mem (1,4)=some [cL .shr t.nodes,cL .shr t.next])∧NoBox [(1,3),(1,4)] σ.mem) (fun r_145=>∃ σ:St,out=.exit 0 σ∧(σ.mem (1,3)=some [cL .shr s.nodes,cL .shr s.next]∧σ.mem (1,4)=some [cL .shr t.nodes,cL .shr t.next])∧NoBox [(1,3),(1,4)] σ.mem) r_145
   refine loopP ({ hd:=[2,3,4,7,37,38,39],bx:=[],ex:=[],rt:=[6] }) I_31 X_32 h_146 (by exact rfl) ?_ ?_ ?_
   ·rw [I_31_]
    exact ⟨by simp [zac,zaa,h_9,h_28],NoBox.restrict (by intro k hk hb;simp at hk hb;simp [hk,hb,h_9,h_28])⟩
   ·intro s_29 σ_33 a_30 hI hp
    rw [I_31_] at hI
    obtain ⟨q_35,hn_34⟩:=hI
    try simp [h_9,h_28,q_35]
    rcases zad hp with ⟨h_36,hp⟩|⟨h_36,hp⟩
    ·try simp at h_36
     obtain ⟨e_37,h_38,hp⟩:=zab hp
     have b_39:=at_lo h_38
     have b_40:=at_hi h_38
     try simp at b_39 b_40
     have c_41:=seg_at' h_38 0 1 (by decide) (ds:=[.sc (.int .i64 e_37)]) rfl
     try simp at c_41
     try simp [h_9,h_28,q_35,h_36,b_39,b_40,c_41]
     rcases zad hp with ⟨h_42,hp⟩|⟨h_42,hp⟩
     ·try simp at h_42
      obtain ⟨e_43,h_44,hp⟩:=zab hp
      cases Option.some.inj (h_2.symm.trans h_44)
      have b_45:=at_lo h_2
      have b_46:=at_hi h_2
      try simp at b_45 b_46
      have c_47:=seg_at' h_2 0 1 (by decide) (ds:=[.sc (.int .i64 e_1)]) rfl
      try simp at c_47
      try simp [h_9,h_28,q_35,h_36,h_42,b_45,b_46,c_47]
      rcases zad hp with ⟨h_48,hp⟩|⟨h_48,hp⟩
      ·try simp at h_48
       obtain ⟨e_49,h_50,hp⟩:=zab hp
       have b_51:=at_lo h_50
       have b_52:=at_hi h_50
       try simp at b_51 b_52
       have c_53:=seg_at' h_50 3 1 (by decide) (ds:=[.sc (.int .i64 e_49.many)]) rfl
       try simp at c_53
       try simp [h_9,h_28,q_35,h_36,h_42,h_48,b_51,b_52,c_53]
       rcases zad hp with ⟨h_54,hp⟩|⟨h_54,hp⟩
       ·try simp at h_54
        cases hp
        try simp [h_9,h_28,q_35,h_36,h_42,h_48,h_54]
        refine zal ?_
        rw [X_32_]
        exact ⟨_,rfl,by simp [zac,zaa,h_9,h_28,q_35,h_36,h_42,h_48,h_54],NoBox.restrict (by intro k hk hb;simp at hk hb;simp [hk,hb,h_9,h_28,q_35,h_36,h_42,h_48,h_54,hn_34 k (by simp [hk,hb])])⟩
       ·try simp at h_54
        obtain ⟨y_55,h_56,hp⟩:=zab hp
        have c_57:=zix h_56
        simp at c_57
        obtain ⟨e_58,h_59,hp⟩:=zab hp
        cases Option.some.inj (h_2.symm.trans h_59)
        have b_60:=at_lo h_2
        have b_61:=at_hi h_2
        try simp at b_60 b_61
        have c_62:=seg_at' h_2 0 1 (by decide) (ds:=[.sc (.int .i64 e_1)]) rfl
        try simp at c_62
        obtain ⟨y_63,h_64,hp⟩:=zab hp
        have c_65:=zix h_64
        simp at c_65
        obtain ⟨y_66,h_67,hp⟩:=zab hp
        have c_68:=zjm h_67
        simp at c_68
        try simp [h_9,h_28,q_35,h_36,h_42,h_48,h_54,c_57,b_60,b_61,c_62,c_65,c_68]
        rcases zad hp with ⟨h_69,hp⟩|⟨h_69,hp⟩
        ·try simp at h_69
         obtain ⟨y_70,h_71,hp⟩:=zab hp
         have c_72:=zix h_71
         simp at c_72
         obtain ⟨e_73,h_74,hp⟩:=zab hp
         cases Option.some.inj (h_2.symm.trans h_74)
         have b_75:=at_lo h_2
         have b_76:=at_hi h_2
         try simp at b_75 b_76
         have c_77:=seg_at' h_2 0 1 (by decide) (ds:=[.sc (.int .i64 e_1)]) rfl
         try simp at c_77
         obtain ⟨y_78,h_79,hp⟩:=zab hp
         have c_80:=zix h_79
         simp at c_80
         obtain ⟨y_81,h_82,hp⟩:=zab hp
         have c_83:=zjm h_82
         simp at c_83
         try simp [h_9,h_28,q_35,h_36,h_42,h_48,h_54,h_69,c_72,b_75,b_76,c_77,c_80,c_83]
         rcases zad hp with ⟨h_84,hp⟩|⟨h_84,hp⟩
         ·try simp at h_84
          cases hp
          try simp [h_9,h_28,q_35,h_36,h_42,h_48,h_54,h_69,h_84]
          refine zae ?_
          rw [I_31_]
          exact ⟨by simp [zac,zaa,h_9,h_28,q_35,h_36,h_42,h_48,h_54,h_69,h_84],NoBox.restrict (by intro k hk hb;simp at hk hb;simp [hk,hb,h_9,h_28,q_35,h_36,h_42,h_48,h_54,h_69,h_84,hn_34 k (by simp [hk,hb])])⟩
         ·try simp at h_84
          cases hp
          try simp [h_9,h_28,q_35,h_36,h_42,h_48,h_54,h_69,h_84]
          refine zal ?_
          rw [X_32_]
          exact ⟨_,rfl,by simp [zac,zaa,h_9,h_28,q_35,h_36,h_42,h_48,h_54,h_69,h_84],NoBox.restrict (by intro k hk hb;simp at hk hb;simp [hk,hb,h_9,h_28,q_35,h_36,h_42,h_48,h_54,h_69,h_84,hn_34 k (by simp [hk,hb])])⟩
        ·try simp at h_69
         cases hp
         try simp [h_9,h_28,q_35,h_36,h_42,h_48,h_54,h_69]
         refine zal ?_
         rw [X_32_]
         exact ⟨_,rfl,by simp [zac,zaa,h_9,h_28,q_35,h_36,h_42,h_48,h_54,h_69],NoBox.restrict (by intro k hk hb;simp at hk hb;simp [hk,hb,h_9,h_28,q_35,h_36,h_42,h_48,h_54,h_69,hn_34 k (by simp [hk,hb])])⟩
      ·try simp at h_48
       obtain ⟨y_85,h_86,hp⟩:=zab hp
       have c_87:=zix h_86
       simp at c_87
       obtain ⟨e_88,h_89,hp⟩:=zab hp
       cases Option.some.inj (h_2.symm.trans h_89)
       have b_90:=at_lo h_2
       have b_91:=at_hi h_2
       try simp at b_90 b_91
       have c_92:=seg_at' h_2 0 1 (by decide) (ds:=[.sc (.int .i64 e_1)]) rfl
       try simp at c_92
       obtain ⟨y_93,h_94,hp⟩:=zab hp
       have c_95:=zix h_94
       simp at c_95
       obtain ⟨y_96,h_97,hp⟩:=zab hp
       have c_98:=zjm h_97
       simp at c_98
       try simp [h_9,h_28,q_35,h_36,h_42,h_48,c_87,b_90,b_91,c_92,c_95,c_98]
       rcases zad hp with ⟨h_99,hp⟩|⟨h_99,hp⟩
       ·try simp at h_99
        obtain ⟨y_100,h_101,hp⟩:=zab hp
        have c_102:=zix h_101
        simp at c_102
        obtain ⟨e_103,h_104,hp⟩:=zab hp
        cases Option.some.inj (h_2.symm.trans h_104)
        have b_105:=at_lo h_2
        have b_106:=at_hi h_2
        try simp at b_105 b_106
        have c_107:=seg_at' h_2 0 1 (by decide) (ds:=[.sc (.int .i64 e_1)]) rfl
        try simp at c_107
        obtain ⟨y_108,h_109,hp⟩:=zab hp
        have c_110:=zix h_109
        simp at c_110
        obtain ⟨y_111,h_112,hp⟩:=zab hp
        have c_113:=zjm h_112
        simp at c_113
        try simp [h_9,h_28,q_35,h_36,h_42,h_48,h_99,c_102,b_105,b_106,c_107,c_110,c_113]
        rcases zad hp with ⟨h_114,hp⟩|⟨h_114,hp⟩
        ·try simp at h_114
         cases hp
         try simp [h_9,h_28,q_35,h_36,h_42,h_48,h_99,h_114]
         refine zae ?_
         rw [I_31_]
         exact ⟨by simp [zac,zaa,h_9,h_28,q_35,h_36,h_42,h_48,h_99,h_114],NoBox.restrict (by intro k hk hb;simp at hk hb;simp [hk,hb,h_9,h_28,q_35,h_36,h_42,h_48,h_99,h_114,hn_34 k (by simp [hk,hb])])⟩
        ·try simp at h_114
         cases hp
         try simp [h_9,h_28,q_35,h_36,h_42,h_48,h_99,h_114]
         refine zal ?_
         rw [X_32_]
         exact ⟨_,rfl,by simp [zac,zaa,h_9,h_28,q_35,h_36,h_42,h_48,h_99,h_114],NoBox.restrict (by intro k hk hb;simp at hk hb;simp [hk,hb,h_9,h_28,q_35,h_36,h_42,h_48,h_99,h_114,hn_34 k (by simp [hk,hb])])⟩
       ·try simp at h_99
        cases hp
        try simp [h_9,h_28,q_35,h_36,h_42,h_48,h_99]
        refine zal ?_
        rw [X_32_]
        exact ⟨_,rfl,by simp [zac,zaa,h_9,h_28,q_35,h_36,h_42,h_48,h_99],NoBox.restrict (by intro k hk hb;simp at hk hb;simp [hk,hb,h_9,h_28,q_35,h_36,h_42,h_48,h_99,hn_34 k (by simp [hk,hb])])⟩
     ·try simp at h_42
      obtain ⟨y_115,h_116,hp⟩:=zab hp
      have c_117:=zix h_116
      simp at c_117
      obtain ⟨e_118,h_119,hp⟩:=zab hp
      cases Option.some.inj (h_2.symm.trans h_119)
      have b_120:=at_lo h_2
      have b_121:=at_hi h_2
      try simp at b_120 b_121
      have c_122:=seg_at' h_2 0 1 (by decide) (ds:=[.sc (.int .i64 e_1)]) rfl
      try simp at c_122
      obtain ⟨y_123,h_124,hp⟩:=zab hp
      have c_125:=zix h_124
      simp at c_125
      obtain ⟨y_126,h_127,hp⟩:=zab hp
      have c_128:=zjm h_127
      simp at c_128
      try simp [h_9,h_28,q_35,h_36,h_42,c_117,b_120,b_121,c_122,c_125,c_128]
      rcases zad hp with ⟨h_129,hp⟩|⟨h_129,hp⟩
      ·try simp at h_129
       obtain ⟨y_130,h_131,hp⟩:=zab hp
       have c_132:=zix h_131
       simp at c_132
       obtain ⟨e_133,h_134,hp⟩:=zab hp
       cases Option.some.inj (h_2.symm.trans h_134)
       have b_135:=at_lo h_2
       have b_136:=at_hi h_2
       try simp at b_135 b_136
       have c_137:=seg_at' h_2 0 1 (by decide) (ds:=[.sc (.int .i64 e_1)]) rfl
       try simp at c_137
       obtain ⟨y_138,h_139,hp⟩:=zab hp
       have c_140:=zix h_139
       simp at c_140
       obtain ⟨y_141,h_142,hp⟩:=zab hp
       have c_143:=zjm h_142
       simp at c_143
       try simp [h_9,h_28,q_35,h_36,h_42,h_129,c_132,b_135,b_136,c_137,c_140,c_143]
       rcases zad hp with ⟨h_144,hp⟩|⟨h_144,hp⟩
       ·try simp at h_144
        cases hp
        try simp [h_9,h_28,q_35,h_36,h_42,h_129,h_144]
        refine zae ?_
        rw [I_31_]
        exact ⟨by simp [zac,zaa,h_9,h_28,q_35,h_36,h_42,h_129,h_144],NoBox.restrict (by intro k hk hb;simp at hk hb;simp [hk,hb,h_9,h_28,q_35,h_36,h_42,h_129,h_144,hn_34 k (by simp [hk,hb])])⟩
       ·try simp at h_144
        cases hp
        try simp [h_9,h_28,q_35,h_36,h_42,h_129,h_144]
        refine zal ?_
        rw [X_32_]
        exact ⟨_,rfl,by simp [zac,zaa,h_9,h_28,q_35,h_36,h_42,h_129,h_144],NoBox.restrict (by intro k hk hb;simp at hk hb;simp [hk,hb,h_9,h_28,q_35,h_36,h_42,h_129,h_144,hn_34 k (by simp [hk,hb])])⟩
      ·try simp at h_129
       cases hp
       try simp [h_9,h_28,q_35,h_36,h_42,h_129]
       refine zal ?_
       rw [X_32_]
       exact ⟨_,rfl,by simp [zac,zaa,h_9,h_28,q_35,h_36,h_42,h_129],NoBox.restrict (by intro k hk hb;simp at hk hb;simp [hk,hb,h_9,h_28,q_35,h_36,h_42,h_129,hn_34 k (by simp [hk,hb])])⟩
    ·try simp at h_36
     cases hp
     try simp [h_9,h_28,q_35,h_36]
     refine zag ?_
     rw [X_32_]
     exact ⟨_,rfl,by simp [zac,zaa,h_9,h_28,q_35,h_36],NoBox.restrict (by intro k hk hb;simp at hk hb;simp [hk,hb,h_9,h_28,q_35,h_36,hn_34 k (by simp [hk,hb])])⟩
   ·intro out hX
    rw [X_32_] at hX
    rcases r_145 with r_145 | r_145
    ·simp only [Sum.elim_inl,Sum.elim_inr] at hX hp
     obtain ⟨σ_147,rfl,q_149,hn_148⟩:=hX
     cases hp
     simp [Goal,FnEnd,h_9,h_28,q_149]
    ·simp only [Sum.elim_inl,Sum.elim_inr] at hX hp
     obtain ⟨σ_150,rfl,q_152,hn_151⟩:=hX
     cases hp
     simp [Goal,FnEnd,h_9,h_28,q_152]
  ·try simp at h_28
   cases hp
   simp [Goal,FnEnd,h_9,h_28]
 ·try simp at h_9
  cases hp
  simp [Goal,FnEnd,h_9]
theorem pc164:PC Tryz.prog 164 C164:=pc_of (g:=g164) (zai _ g164_s.2.1 ⟨pc62,pc99,pc171,pc172,trivial⟩) (ent Tryz.func164) fun x y h=>w164 h

abbrev G162 (g:Cfg):Prop:=Has Tryz.prog g 162 Tryz.f162 [37] [(4,{ hd:=[0,1,2,3,23,24],bx:=[],ex:=[],rt:=[5,6] })] [(95,C95),(163,C163),(164,C164)] []
theorem wI162 {g:Cfg} (G:G162 g) (fu:Nat):∀ {d:Nat} {mem:Mem} (hT:Tight d mem) {K_1:Key} {K_2:Key} {K_3:Key} {to_:(List Int)} {c0:TStructure} {c1:TStructure} {m_0:Md} (hm_0:LentM m_0) {mk_1:Md} (hk_1:K_1.1≤d) (hb_1:mem K_1=some [cL mk_1 c0.nodes,cL mk_1 c0.next]) {mk_2:Md} (hk_2:K_2.1≤d) (hb_2:mem K_2=some [cL mk_2 c1.nodes,cL mk_2 c1.next]) (hk_3:K_3.1≤d) (hb_3:mem K_3=some [.fn 162 [(K_1,0),(K_2,0),(K_3,0)]]) {y} (hp:fixN zao fu (to_,c0,c1,())=some y),∃ r,callo g d 162 [av m_0 to_,.one (.ptr K_1 0),.one (.ptr K_2 0),.one (.ptr K_3 0)] mem=some (r,mem)∧∃ me_0:Md,r=.tu [tupM me_0 y.1,tup y.2]:=by
 have gP:=G.P;have gt:=G.tk;have gr:=G.ro;have gg:=G.gh
 have i_162:=G.no
 have k_4:=G.kp (4,{ hd:=[0,1,2,3,23,24],bx:=[],ex:=[],rt:=[5,6] }) (by simp)
 have c_95:=G.cs (95,C95) (by simp)
 have c_163:=G.cs (163,C163) (by simp)
 have c_164:=G.cs (164,C164) (by simp)
 induction fu with
 | zero=>intros;exact absurd ‹fixN _ 0 _=some _› (by simp [fixN])
 | succ fu ih =>
  intro d mem hT K_1 K_2 K_3 to_ c0 c1 m_0 hm_0 mk_1 hk_1 hb_1 mk_2 hk_2 hb_2 hk_3 hb_3 y hp
  have hT2:memKill (fun k=>decide (d < k.1)) mem=mem:=hT
  have nk_1:∀ t,(K_1=(d+1,t))=False:=fun t=>by simp;intro h;rw [h] at hk_1;simp at hk_1;omega
  have nk_2:∀ t,(K_2=(d+1,t))=False:=fun t=>by simp;intro h;rw [h] at hk_2;simp at hk_2;omega
  have nk_3:∀ t,(K_3=(d+1,t))=False:=fun t=>by simp;intro h;rw [h] at hk_3;simp at hk_3;omega
  refine zqg (Tryz.f162.body.getD .skip) [.tmp 5,.tmp 6] G Tryz.func162 (by kernel_rfl) (by simp [Tryz.ntmps162]) rfl ?_
  replace hp:zaz (fun to_ c0 c1=>fixN zao fu (to_,c0,c1,())) to_ c0 c1=some y:=hp
  unfold zaz at hp
  simp [Tryz.f162,gP,gt,gr,gg,i_162,hm_0.copy,hm_0.elem,hb_1,nk_1,hb_2,nk_2,hb_3,nk_3]
  rcases zad hp with ⟨h_1,hp⟩|⟨h_1,hp⟩
  ·try simp at h_1
   obtain ⟨y_2,h_3,hp⟩:=zab hp
   have c_4:=C163_eq h_3
   simp at c_4
   cases hp
   simp [Goal,FnEndE,zax,retR,rsrc,RSrc.val,nodupR,nodup,tupPart,gP,gt,gr,gg,c_163,i_162,hm_0.copy,hm_0.elem,hb_1,nk_1,hb_2,nk_2,hb_3,nk_3,h_1,c_4,hT2]
  ·try simp at h_1
   try simp [gP,gt,gr,gg,c_95,c_163,c_164,i_162,hm_0.copy,hm_0.elem,hb_1,nk_1,hb_2,nk_2,hb_3,nk_3,h_1]
   obtain ⟨r_28,h_29,hp⟩:=zab hp
   obtain ⟨I_7,I_7_⟩:=exV fun (s_5:Int) (σ:St)=>(σ.env 0=uL m_0 to_∧σ.env 1=uP K_1∧σ.env 2=uP K_2∧σ.env 3=uP K_3∧σ.env 23=uI (c1.nodes.length:Int)∧σ.env 24=uI s_5∧σ.mem K_1=some [cL mk_1 c0.nodes,cL mk_1 c0.next]∧σ.mem K_2=some [cL mk_2 c1.nodes,cL mk_2 c1.next]∧σ.mem K_3=some [.fn 162 [(K_1,0),(K_2,0),(K_3,0)]])∧Tight (d+1) σ.mem∧Agree d mem σ.mem∧NoBoxD d [] σ.mem
   obtain ⟨X_8,X_8_⟩:=exV fun (r_28:((List Int) × Bool) ⊕ (Unit)) (out:Out)=>Sum.elim (fun r_28=>∃ σ:St,out=.ret σ∧(σ.env 6=uB r_28.2∧σ.mem K_1=some [cL mk_1 c0.nodes,cL mk_1 c0.next]∧σ.mem K_2=some [cL mk_2 c1.nodes,cL mk_2 c1.next]∧σ.mem K_3=some [.fn 162 [(K_1,0),(K_2,0),(K_3,0)]])∧(∃ mq_30:Md,σ.env 5=uL mq_30 r_28.1)∧Tight (d+1) σ.mem∧Agree d mem σ.mem∧NoBoxD d [] σ.mem) (fun r_28=>∃ σ:St,out=.exit 0 σ∧(σ.mem K_1=some [cL mk_1 c0.nodes,cL mk_1 c0.next]∧σ.mem K_2=some [cL mk_2 c1.nodes,cL mk_2 c1.next]∧σ.mem K_3=some [.fn 162 [(K_1,0),(K_2,0),(K_3,0)]])∧Tight (d+1) σ.mem∧Agree d mem σ.mem∧NoBoxD d [] σ.mem) r_28
   refine loopP ({ hd:=[0,1,2,3,23,24],bx:=[],ex:=[],rt:=[5,6] }) I_7 X_8 h_29 (by exact k_4) ?_ ?_ ?_
   ·rw [I_7_]
    exact ⟨by simp [zac,zaa,gP,gt,gr,gg,c_95,c_163,c_164,i_162,hm_0.copy,hm_0.elem,hb_1,nk_1,hb_2,nk_2,hb_3,nk_3,h_1],(by repeat (first | exact zan _ | exact hT.up | exact hT | refine Tight.restrict ?_ | refine Tight.upd ?_ (by simp) (by simp) | refine Tight.killB ?_ | refine zar ?_)),(by repeat (first | exact fun k hk=>rfl | refine Agree.restrict hT ?_ | refine Agree.upd ?_ (by simp))),NoBoxD.restrict (by intro k hd hk hb;simp at hk hb;simp [hk,hb,gP,gt,gr,gg,c_95,c_163,c_164,i_162,hm_0.copy,hm_0.elem,hb_1,nk_1,hb_2,nk_2,hb_3,nk_3,h_1,hT.none hd])⟩
   ·intro s_5 σ_9 a_6 hI hp
    rw [I_7_] at hI
    obtain ⟨q_13,ht_10,ha_11,hn_12⟩:=hI
    try simp [gP,gt,gr,gg,c_95,c_163,c_164,i_162,hm_0.copy,hm_0.elem,hb_1,nk_1,hb_2,nk_2,hb_3,nk_3,h_1,q_13]
    rcases zad hp with ⟨h_14,hp⟩|⟨h_14,hp⟩
    ·try simp at h_14
     obtain ⟨y_15,h_16,hp⟩:=zab hp
     have c_17:=C95_eq h_16
     simp at c_17
     obtain ⟨_,h_18,hp⟩:=zab hp
     have b_19:=zap h_18
     try simp at b_19
     obtain ⟨y_20,h_21,hp⟩:=zab hp
     have c_22:=C164_eq h_21
     simp at c_22
     try simp [gP,gt,gr,gg,c_95,c_163,c_164,i_162,hm_0.copy,hm_0.elem,hb_1,nk_1,hb_2,nk_2,hb_3,nk_3,h_1,q_13,h_14,c_17,b_19,c_22]
     rcases zad hp with ⟨h_23,hp⟩|⟨h_23,hp⟩
     ·try simp at h_23
      obtain ⟨y_24,h_25,hp⟩:=zab hp
      try simp [gP,gt,gr,gg,c_95,c_163,c_164,i_162,hm_0.copy,hm_0.elem,hb_1,nk_1,hb_2,nk_2,hb_3,nk_3,h_1,q_13,h_14,h_23]
      refine zie [av .bor (y_15 ++ [s_5]),.one (.ptr K_1 0),.one (.ptr K_2 0),.one (.ptr K_3 0)] (fun r=>∃ me_26:Md,r=.tu [tupM me_26 y_24.1,tup y_24.2]) (by simp [gP,gt,gr,gg,c_95,c_163,c_164,i_162,hm_0.copy,hm_0.elem,hb_1,nk_1,hb_2,nk_2,hb_3,nk_3,h_1,q_13,h_14,h_23]) (ih (mk_1:=mk_1) (mk_2:=mk_2) (by repeat (first | exact ht_10 | exact zan _ | exact hT.up | exact hT | (simp only [q_13];done) | refine Tight.upd ?_ (by simp) (by simp) | refine Tight.killB ?_ | refine zar ?_)) (.inr rfl) (Nat.le_succ_of_le hk_1) (by simp [gP,gt,gr,gg,c_95,c_163,c_164,i_162,hm_0.copy,hm_0.elem,hb_1,nk_1,hb_2,nk_2,hb_3,nk_3,h_1,q_13,h_14,h_23]) (Nat.le_succ_of_le hk_2) (by simp [gP,gt,gr,gg,c_95,c_163,c_164,i_162,hm_0.copy,hm_0.elem,hb_1,nk_1,hb_2,nk_2,hb_3,nk_3,h_1,q_13,h_14,h_23]) (Nat.le_succ_of_le hk_3) (by simp [gP,gt,gr,gg,c_95,c_163,c_164,i_162,hm_0.copy,hm_0.elem,hb_1,nk_1,hb_2,nk_2,hb_3,nk_3,h_1,q_13,h_14,h_23]) h_25) ?_
      rintro _ ⟨me_26,rfl⟩
      try simp [gP,gt,gr,gg,c_95,c_163,c_164,i_162,hm_0.copy,hm_0.elem,hb_1,nk_1,hb_2,nk_2,hb_3,nk_3,h_1,q_13,h_14,h_23]
      rcases zad hp with ⟨h_27,hp⟩|⟨h_27,hp⟩
      ·try simp at h_27
       cases hp
       try simp [gP,gt,gr,gg,c_95,c_163,c_164,i_162,hm_0.copy,hm_0.elem,hb_1,nk_1,hb_2,nk_2,hb_3,nk_3,h_1,q_13,h_14,h_23,h_27]
       refine zal ?_
       rw [X_8_]
       exact ⟨_,rfl,by simp [zac,zaa,gP,gt,gr,gg,c_95,c_163,c_164,i_162,hm_0.copy,hm_0.elem,hb_1,nk_1,hb_2,nk_2,hb_3,nk_3,h_1,q_13,h_14,h_23,h_27],⟨me_26.copy,by simp [zac,gP,gt,gr,gg,c_95,c_163,c_164,i_162,hm_0.copy,hm_0.elem,hb_1,nk_1,hb_2,nk_2,hb_3,nk_3,h_1,q_13,h_14,h_23,h_27]⟩,(by repeat (first | exact ht_10 | exact zan _ | exact hT.up | exact hT | refine Tight.restrict ?_ | refine Tight.upd ?_ (by simp) (by simp) | refine Tight.killB ?_ | refine zar ?_)),(by repeat (first | exact ha_11 | exact fun k hk=>rfl | refine Agree.restrict hT ?_ | refine Agree.upd ?_ (by simp))),NoBoxD.restrict (by intro k hd hk hb;simp at hk hb;simp [hk,hb,gP,gt,gr,gg,c_95,c_163,c_164,i_162,hm_0.copy,hm_0.elem,hb_1,nk_1,hb_2,nk_2,hb_3,nk_3,h_1,q_13,h_14,h_23,h_27,hn_12 k hd (by simp [hk,hb])])⟩
      ·try simp at h_27
       cases hp
       try simp [gP,gt,gr,gg,c_95,c_163,c_164,i_162,hm_0.copy,hm_0.elem,hb_1,nk_1,hb_2,nk_2,hb_3,nk_3,h_1,q_13,h_14,h_23,h_27]
       refine zae ?_
       rw [I_7_]
       exact ⟨by simp [zac,zaa,gP,gt,gr,gg,c_95,c_163,c_164,i_162,hm_0.copy,hm_0.elem,hb_1,nk_1,hb_2,nk_2,hb_3,nk_3,h_1,q_13,h_14,h_23,h_27],(by repeat (first | exact ht_10 | exact zan _ | exact hT.up | exact hT | refine Tight.restrict ?_ | refine Tight.upd ?_ (by simp) (by simp) | refine Tight.killB ?_ | refine zar ?_)),(by repeat (first | exact ha_11 | exact fun k hk=>rfl | refine Agree.restrict hT ?_ | refine Agree.upd ?_ (by simp))),NoBoxD.restrict (by intro k hd hk hb;simp at hk hb;simp [hk,hb,gP,gt,gr,gg,c_95,c_163,c_164,i_162,hm_0.copy,hm_0.elem,hb_1,nk_1,hb_2,nk_2,hb_3,nk_3,h_1,q_13,h_14,h_23,h_27,hn_12 k hd (by simp [hk,hb])])⟩
     ·try simp at h_23
      cases hp
      try simp [gP,gt,gr,gg,c_95,c_163,c_164,i_162,hm_0.copy,hm_0.elem,hb_1,nk_1,hb_2,nk_2,hb_3,nk_3,h_1,q_13,h_14,h_23]
      refine zae ?_
      rw [I_7_]
      exact ⟨by simp [zac,zaa,gP,gt,gr,gg,c_95,c_163,c_164,i_162,hm_0.copy,hm_0.elem,hb_1,nk_1,hb_2,nk_2,hb_3,nk_3,h_1,q_13,h_14,h_23],(by repeat (first | exact ht_10 | exact zan _ | exact hT.up | exact hT | refine Tight.restrict ?_ | refine Tight.upd ?_ (by simp) (by simp) | refine Tight.killB ?_ | refine zar ?_)),(by repeat (first | exact ha_11 | exact fun k hk=>rfl | refine Agree.restrict hT ?_ | refine Agree.upd ?_ (by simp))),NoBoxD.restrict (by intro k hd hk hb;simp at hk hb;simp [hk,hb,gP,gt,gr,gg,c_95,c_163,c_164,i_162,hm_0.copy,hm_0.elem,hb_1,nk_1,hb_2,nk_2,hb_3,nk_3,h_1,q_13,h_14,h_23,hn_12 k hd (by simp [hk,hb])])⟩
    ·try simp at h_14
     cases hp
     try simp [gP,gt,gr,gg,c_95,c_163,c_164,i_162,hm_0.copy,hm_0.elem,hb_1,nk_1,hb_2,nk_2,hb_3,nk_3,h_1,q_13,h_14]
     refine zag ?_
     rw [X_8_]
     exact ⟨_,rfl,by simp [zac,zaa,gP,gt,gr,gg,c_95,c_163,c_164,i_162,hm_0.copy,hm_0.elem,hb_1,nk_1,hb_2,nk_2,hb_3,nk_3,h_1,q_13,h_14],(by repeat (first | exact ht_10 | exact zan _ | exact hT.up | exact hT | refine Tight.restrict ?_ | refine Tight.upd ?_ (by simp) (by simp) | refine Tight.killB ?_ | refine zar ?_)),(by repeat (first | exact ha_11 | exact fun k hk=>rfl | refine Agree.restrict hT ?_ | refine Agree.upd ?_ (by simp))),NoBoxD.restrict (by intro k hd hk hb;simp at hk hb;simp [hk,hb,gP,gt,gr,gg,c_95,c_163,c_164,i_162,hm_0.copy,hm_0.elem,hb_1,nk_1,hb_2,nk_2,hb_3,nk_3,h_1,q_13,h_14,hn_12 k hd (by simp [hk,hb])])⟩
   ·intro out hX
    rw [X_8_] at hX
    rcases r_28 with r_28 | r_28
    ·simp only [Sum.elim_inl,Sum.elim_inr] at hX hp
     obtain ⟨σ_31,rfl,q_36,⟨mq_30,q_32⟩,ht_33,ha_34,hn_35⟩:=hX
     cases hp
     simp [Goal,FnEndE,zax,retR,rsrc,RSrc.val,nodupR,nodup,tupPart,gP,gt,gr,gg,c_95,c_163,c_164,i_162,hm_0.copy,hm_0.elem,hb_1,nk_1,hb_2,nk_2,hb_3,nk_3,h_1,q_36,q_32,zje ha_34 hT]
    ·simp only [Sum.elim_inl,Sum.elim_inr] at hX hp
     obtain ⟨σ_37,rfl,q_41,ht_38,ha_39,hn_40⟩:=hX
     cases hp
     simp [Goal,FnEndE,zax,retR,rsrc,RSrc.val,nodupR,nodup,tupPart,gP,gt,gr,gg,c_95,c_163,c_164,i_162,hm_0.copy,hm_0.elem,hb_1,nk_1,hb_2,nk_2,hb_3,nk_3,h_1,q_41,zje ha_39 hT]

abbrev G149 (g:Cfg):Prop:=Has Tryz.prog g 149 Tryz.f149 [10] [] [(95,C95),(163,C163),(164,C164)] []
theorem wI149 {g:Cfg} (G:G149 g) (G_162:G162 g) {d:Nat} {mem:Mem} (hT:Tight d mem)  {s:TStructure} {t:TStructure} {m_0:Md} (hm_0:LentM m_0) {m_1:Md} (hm_1:LentM m_1) {y} (hp:zdz s t=some y):∃ r,callo g d 149 [av m_0 s,av m_1 t] mem=some (r,mem)∧∃ me_0:Md,r=.tu [tupM me_0 y.1,tup y.2]:=by
 have gP:=G.P;have gt:=G.tk;have gr:=G.ro;have gg:=G.gh
 have i_162:=G_162.no
 have c_95:=G.cs (95,C95) (by simp)
 have c_163:=G.cs (163,C163) (by simp)
 have c_164:=G.cs (164,C164) (by simp)
 have hT2:memKill (fun k=>decide (d < k.1)) mem=mem:=hT
 have hm0:∀ t,mem (d+1,t)=none:=fun t=>hT.none (by simp)
 refine zqg (Tryz.f149.body.getD .skip) [.tmp 4,.tmp 5] G Tryz.func149 (by kernel_rfl) (by simp [Tryz.ntmps149]) rfl ?_
 unfold zdz at hp
 obtain ⟨y_1,h_2,hp⟩:=zab hp
 simp [Tryz.f149,gP,gt,gr,gg,hm0,c_95,c_163,c_164,i_162,hm_0.copy,hm_0.elem,hm_1.copy,hm_1.elem]
 refine zie [av .bor [],.one (.ptr (d+1,2) 0),.one (.ptr (d+1,3) 0),.one (.ptr (d+1,6) 0)] (fun r=>∃ me_3:Md,r=.tu [tupM me_3 y_1.1,tup y_1.2]) (by simp [gP,gt,gr,gg,hm0,c_95,c_163,c_164,i_162,hm_0.copy,hm_0.elem,hm_1.copy,hm_1.elem]) (wI162 (mk_1:=m_0) (mk_2:=m_1) G_162 _ (by repeat (first | exact zan _ | exact hT.up | exact hT | (simp only [true_and];done) | refine Tight.upd ?_ (by simp) (by simp) | refine Tight.killB ?_ | refine zar ?_)) (.inr rfl) (by simp) (by simp [gP,gt,gr,gg,hm0,c_95,c_163,c_164,i_162,hm_0.copy,hm_0.elem,hm_1.copy,hm_1.elem]) (by simp) (by simp [gP,gt,gr,gg,hm0,c_95,c_163,c_164,i_162,hm_0.copy,hm_0.elem,hm_1.copy,hm_1.elem]) (by simp) (by simp [gP,gt,gr,gg,hm0,c_95,c_163,c_164,i_162,hm_0.copy,hm_0.elem,hm_1.copy,hm_1.elem]) (zok h_2).choose_spec) ?_
 rintro _ ⟨me_3,rfl⟩
 try simp [gP,gt,gr,gg,hm0,c_95,c_163,c_164,i_162,hm_0.copy,hm_0.elem,hm_1.copy,hm_1.elem]
 rcases zad hp with ⟨h_4,hp⟩|⟨h_4,hp⟩
 ·try simp at h_4
  cases hp
  simp [Goal,FnEndE,zax,retR,rsrc,RSrc.val,nodupR,nodup,tupPart,gP,gt,gr,gg,hm0,c_95,c_163,c_164,i_162,hm_0.copy,hm_0.elem,hm_1.copy,hm_1.elem,h_4,hT2]
 ·try simp at h_4
  cases hp
  simp [Goal,FnEndE,zax,retR,rsrc,RSrc.val,nodupR,nodup,tupPart,gP,gt,gr,gg,hm0,c_95,c_163,c_164,i_162,hm_0.copy,hm_0.elem,hm_1.copy,hm_1.elem,h_4,hT2]

def C123:List AV→Option AV:=specP (X:=TStructure × TStructure × Unit) fun x=>zdt x.1 x.2.1
theorem C123_eq {s t} {y} (h:zdt s t=some y):C123 [av .shr s,av .shr t]=some (Res.res y):=zah (x:=(s,t,())) h
def g123:Cfg:={ P:=Tryz.prog,take:=[(123,7),(149,10),(162,37)],keep:=[((162,4),{ hd:=[0,1,2,3,23,24],bx:=[],ex:=[],rt:=[5,6] })],gho:=[],ctx:=[(95,C95),(163,C163),(164,C164)] }
@[simp] theorem g123_s:type_of% (cfg_s (g:=g123) rfl):=cfg_s rfl
theorem w123 {s t} {y} (hp:zdt s t=some y):∃ m,callo g123 0 123 [av .shr s,av .shr t] mem0=some (Res.res y,m):=by
 have G_149:G149 g123:=⟨rfl,by kernel_rfl,rfl,fun t=>by simp,noAway (fun t=>by simp) (by simp) (fun t=>by simp),by simp [lookN],fun i=>by simp [lookK],by simp [g123,lookK],by simp⟩
 have G_162:G162 g123:=⟨rfl,by kernel_rfl,rfl,fun t=>by simp,noAway (fun t=>by simp) (by simp) (fun t=>by simp),by simp [lookN],fun i=>by simp [lookK],by simp [g123,lookK],by simp⟩
 refine st0 [.tmp 4] Tryz.func123 ?_
 unfold zdt at hp
 obtain ⟨y_1,h_2,hp⟩:=zab hp
 simp [Tryz.f123]
 refine zie [av .shr s,av .shr t] (fun r=>∃ me_3:Md,r=.tu [tupM me_3 y_1.1,tup y_1.2]) (by simp) (wI149 G_149 G_162 (by repeat (first | exact zan _ | exact hT.up | exact hT | (simp only [true_and];done) | refine Tight.upd ?_ (by simp) (by simp) | refine Tight.killB ?_ | refine zar ?_)) (.inl rfl) (.inl rfl) h_2) ?_
 rintro _ ⟨me_3,rfl⟩
 cases hp
 simp [Goal,FnEnd]
theorem pc123:PC Tryz.prog 123 C123:=pc_of (g:=g123) (zai _ g123_s.2.1 ⟨pc95,pc163,pc164,trivial⟩) (ent Tryz.func123) fun x y h=>w123 h

abbrev G148 (g:Cfg):Prop:=Has Tryz.prog g 148 Tryz.f148 [] [(2,{ hd:=[0,1,7,8],bx:=[],ex:=[],rt:=[4] })] [] []
theorem wI148 {g:Cfg} (G:G148 g) {d:Nat} {mem:Mem} (hT:Tight d mem)  {s:(List TStructure)} {f_:(TStructure→Option (Bool))} {m_0:Md} (hm_0:LentM m_0) {fk_f_:Nat} {caps_f_:List (Key × Nat)} (hl_f_:∀ c∈caps_f_,c.1.1≤d) (hc_f_:Clo g d mem fk_f_ caps_f_ fun x:TStructure × Unit=>f_ x.1) {y} (hp:zcr s f_=some y):callo g d 148 [av m_0 s,.one (.fn fk_f_ caps_f_)] mem=some (Res.res y,mem):=by
 have gP:=G.P;have gt:=G.tk;have gr:=G.ro;have gg:=G.gh
 have k_2:=G.kp (2,{ hd:=[0,1,7,8],bx:=[],ex:=[],rt:=[4] }) (by simp)
 have hT2:memKill (fun k=>decide (d < k.1)) mem=mem:=hT
 refine zgr (Tryz.f148.body.getD .skip) [.tmp 4] G Tryz.func148 (by kernel_rfl) (by simp [Tryz.ntmps148]) rfl ?_
 unfold zcr at hp
 simp [Tryz.f148,gP,gt,gr,gg,hm_0.copy,hm_0.elem]
 obtain ⟨r_18,h_19,hp⟩:=zab hp
 obtain ⟨I_3,I_3_⟩:=exV fun (s_1:Int) (σ:St)=>(σ.env 0=uL m_0 s∧σ.env 7=uI (s.length:Int)∧σ.env 8=uI s_1)∧σ.env 1=.one (.fn fk_f_ caps_f_)∧σ.mem=mem
 obtain ⟨X_4,X_4_⟩:=exV fun (r_18:(Int) ⊕ (Unit)) (out:Out)=>Sum.elim (fun r_18=>∃ σ:St,out=.ret σ∧σ.env 4=uI r_18∧σ.mem=mem) (fun r_18=>∃ σ:St,out=.exit 0 σ∧σ.mem=mem) r_18
 refine loopP ({ hd:=[0,1,7,8],bx:=[],ex:=[],rt:=[4] }) I_3 X_4 h_19 (by exact k_2) ?_ ?_ ?_
 ·rw [I_3_]
  exact ⟨by simp [zac,zaa,gP,gt,gr,gg,hm_0.copy,hm_0.elem],by simp [zac,gP,gt,gr,gg,hm_0.copy,hm_0.elem] <;> first | (intro x x1 x2 hx;have h0:=hl_f_ _ hx;simp at h0;omega) | (intro x hx;have h0:=hl_f_ _ hx;simp at h0;omega),by simp [zaa,gP,gt,gr,gg,hm_0.copy,hm_0.elem]⟩
 ·intro s_1 σ_5 a_2 hI hp
  rw [I_3_] at hI
  obtain ⟨q_8,q_6,q_7⟩:=hI
  try simp [gP,gt,gr,gg,hm_0.copy,hm_0.elem,q_8,q_6,q_7]
  rcases zad hp with ⟨h_9,hp⟩|⟨h_9,hp⟩
  ·try simp at h_9
   obtain ⟨e_10,h_11,hp⟩:=zab hp
   have b_12:=at_lo h_11
   have b_13:=at_hi h_11
   try simp at b_12 b_13
   have c_14:=seg_at' h_11 0 2 (by decide) (ds:=[.sl e_10.nodes.length (encL e_10.nodes),.sl e_10.next.length (encL e_10.next)]) rfl
   try simp at c_14
   obtain ⟨y_15,h_16,hp⟩:=zab hp
   try simp [gP,gt,gr,gg,hm_0.copy,hm_0.elem,q_8,q_6,q_7,h_9,b_12,b_13,c_14]
   refine zez ([av m_0 e_10] ++ capsAV caps_f_) (Res.res y_15) (by simp [capsAV,gP,gt,gr,gg,hm_0.copy,hm_0.elem,q_8,q_6,q_7,h_9]) (hc_f_ _ _ _ (e_10,()) _ (Nat.le_succ d) (fun k hk=>by first | rfl | rw [q_7]) (by repeat (first | exact zan _ | exact hT.up | exact hT | (simp only [q_8,q_6,q_7];done) | refine Tight.upd ?_ (by simp) (by simp) | refine Tight.killB ?_ | refine zar ?_)) ⟨_,_,hm_0,rfl,rfl⟩ h_16) ?_
   try simp [gP,gt,gr,gg,hm_0.copy,hm_0.elem,q_8,q_6,q_7,h_9]
   rcases zad hp with ⟨h_17,hp⟩|⟨h_17,hp⟩
   ·try simp at h_17
    cases hp
    try simp [gP,gt,gr,gg,hm_0.copy,hm_0.elem,q_8,q_6,q_7,h_9,h_17]
    refine zal ?_
    rw [X_4_]
    exact ⟨_,rfl,by simp [zac,zaa,gP,gt,gr,gg,hm_0.copy,hm_0.elem,q_8,q_6,q_7,h_9,h_17],by simp [zaa,gP,gt,gr,gg,hm_0.copy,hm_0.elem,q_8,q_6,q_7,h_9,h_17]⟩
   ·try simp at h_17
    cases hp
    try simp [gP,gt,gr,gg,hm_0.copy,hm_0.elem,q_8,q_6,q_7,h_9,h_17]
    refine zae ?_
    rw [I_3_]
    exact ⟨by simp [zac,zaa,gP,gt,gr,gg,hm_0.copy,hm_0.elem,q_8,q_6,q_7,h_9,h_17],by simp [zac,gP,gt,gr,gg,hm_0.copy,hm_0.elem,q_8,q_6,q_7,h_9,h_17] <;> first | (intro x x1 x2 hx;have h0:=hl_f_ _ hx;simp at h0;omega) | (intro x hx;have h0:=hl_f_ _ hx;simp at h0;omega),by simp [zaa,gP,gt,gr,gg,hm_0.copy,hm_0.elem,q_8,q_6,q_7,h_9,h_17]⟩
  ·try simp at h_9
   cases hp
   try simp [gP,gt,gr,gg,hm_0.copy,hm_0.elem,q_8,q_6,q_7,h_9]
   refine zag ?_
   rw [X_4_]
   exact ⟨_,rfl,by simp [zaa,gP,gt,gr,gg,hm_0.copy,hm_0.elem,q_8,q_6,q_7,h_9]⟩
 ·intro out hX
  rw [X_4_] at hX
  rcases r_18 with r_18 | r_18
  ·simp only [Sum.elim_inl,Sum.elim_inr] at hX hp
   obtain ⟨σ_20,rfl,q_22,q_21⟩:=hX
   cases hp
   simp [Goal,FnEndI,zax,gP,gt,gr,gg,hm_0.copy,hm_0.elem,q_22,q_21,hT2]
  ·simp only [Sum.elim_inl,Sum.elim_inr] at hX hp
   obtain ⟨σ_23,rfl,q_24⟩:=hX
   cases hp
   simp [Goal,FnEndI,zax,gP,gt,gr,gg,hm_0.copy,hm_0.elem,q_24,hT2]

abbrev G121 (g:Cfg):Prop:=Has Tryz.prog g 121 Tryz.f121 [] [] [] []
theorem wI121 {g:Cfg} (G:G121 g) (G_148:G148 g) {d:Nat} {mem:Mem} (hT:Tight d mem)  {s:(List TStructure)} {f_:(TStructure→Option (Bool))} {m_0:Md} (hm_0:LentM m_0) {fk_f_:Nat} {caps_f_:List (Key × Nat)} (hl_f_:∀ c∈caps_f_,c.1.1≤d) (hc_f_:Clo g d mem fk_f_ caps_f_ fun x:TStructure × Unit=>f_ x.1) {y} (hp:zbd s f_=some y):callo g d 121 [av m_0 s,.one (.fn fk_f_ caps_f_)] mem=some (Res.res y,mem):=by
 have gP:=G.P;have gt:=G.tk;have gr:=G.ro;have gg:=G.gh
 have i_148:=G_148.no
 have hT2:memKill (fun k=>decide (d < k.1)) mem=mem:=hT
 refine zgr (Tryz.f121.body.getD .skip) [.tmp 4] G Tryz.func121 (by kernel_rfl) (by simp [Tryz.ntmps121]) rfl ?_
 unfold zbd at hp
 obtain ⟨y_1,h_2,hp⟩:=zab hp
 simp [Tryz.f121,gP,gt,gr,gg,i_148,hm_0.copy,hm_0.elem]
 refine zez [av m_0 s,.one (.fn fk_f_ caps_f_)] (Res.res y_1) (by simp [gP,gt,gr,gg,i_148,hm_0.copy,hm_0.elem]) (wI148 G_148 (by repeat (first | exact zan _ | exact hT.up | exact hT | (simp only [true_and];done) | refine Tight.upd ?_ (by simp) (by simp) | refine Tight.killB ?_ | refine zar ?_)) hm_0 (fun c hc=>Nat.le_succ_of_le (hl_f_ c hc)) (hc_f_.mono (Nat.le_succ d) (fun k hk=>rfl)) h_2) ?_
 cases hp
 simp [Goal,FnEndI,zax,gP,gt,gr,gg,i_148,hm_0.copy,hm_0.elem,hT2]

abbrev G122 (g:Cfg):Prop:=Has Tryz.prog g 122 Tryz.f122 [] [] [(123,C123)] []
theorem wI122 {g:Cfg} (G:G122 g) {d:Nat} {mem:Mem} (hT:Tight d mem) {K_1:Key} {t:TStructure} {c0:TStructure} {m_0:Md} (hm_0:LentM m_0) {mk_1:Md} (hk_1:K_1.1≤d) (hb_1:mem K_1=some [cL mk_1 c0.nodes,cL mk_1 c0.next]) {y} (hp:zfr t c0=some y):callo g d 122 [av m_0 t,.one (.ptr K_1 0)] mem=some (Res.res y,mem):=by
 have gP:=G.P;have gt:=G.tk;have gr:=G.ro;have gg:=G.gh
 have c_123:=G.cs (123,C123) (by simp)
 have hT2:memKill (fun k=>decide (d < k.1)) mem=mem:=hT
 have hm0:∀ t,mem (d+1,t)=none:=fun t=>hT.none (by simp)
 have nk_1:∀ t,(K_1=(d+1,t))=False:=fun t=>by simp;intro h;rw [h] at hk_1;simp at hk_1;omega
 refine zgr (Tryz.f122.body.getD .skip) [.tmp 3] G Tryz.func122 (by kernel_rfl) (by simp [Tryz.ntmps122]) rfl ?_
 unfold zfr at hp
 obtain ⟨y_1,h_2,hp⟩:=zab hp
 have c_3:=C123_eq h_2
 simp at c_3
 cases hp
 simp [Tryz.f122,Goal,FnEndI,zax,gP,gt,gr,gg,hm0,c_123,hm_0.copy,hm_0.elem,hb_1,nk_1,c_3,hT2]

def C81:List AV→Option AV:=specP (X:=(List TStructure) × TStructure × Unit) fun x=>zgn x.1 x.2.1
theorem C81_eq {set s} {y} (h:zgn set s=some y):C81 [av .shr set,av .shr s]=some (Res.res y):=zah (x:=(set,s,())) h
def g81:Cfg:={ P:=Tryz.prog,take:=[],keep:=[((148,2),{ hd:=[0,1,7,8],bx:=[],ex:=[],rt:=[4] })],gho:=[],ctx:=[(123,C123)] }
@[simp] theorem g81_s:type_of% (cfg_s (g:=g81) rfl):=cfg_s rfl
theorem w81 {set s} {y} (hp:zgn set s=some y):∃ m,callo g81 0 81 [av .shr set,av .shr s] mem0=some (Res.res y,m):=by
 have G_121:G121 g81:=⟨rfl,by kernel_rfl,rfl,fun t=>by simp,noAway (fun t=>by simp) (by simp) (fun t=>by simp),by simp [lookN],fun i=>by simp [lookK],by simp [g81,lookK],by simp⟩
 have G_148:G148 g81:=⟨rfl,by kernel_rfl,rfl,fun t=>by simp,noAway (fun t=>by simp) (by simp) (fun t=>by simp),by simp [lookN],fun i=>by simp [lookK],by simp [g81,lookK],by simp⟩
 have G_122:G122 g81:=⟨rfl,by kernel_rfl,rfl,fun t=>by simp,noAway (fun t=>by simp) (by simp) (fun t=>by simp),by simp [lookN],fun i=>by simp [lookK],by simp [g81,lookK],by simp⟩
 refine st0 [.tmp 4] Tryz.func81 ?_
 unfold zgn at hp
 obtain ⟨y_1,h_2,hp⟩:=zab hp
 simp [Tryz.f81]
 refine zez [av .shr set,.one (.fn 122 [((1,3),0)])] (Res.res y_1) (by simp) (wI121 G_121 G_148 (by repeat (first | exact zan _ | exact hT.up | exact hT | (simp only [true_and];done) | refine Tight.upd ?_ (by simp) (by simp) | refine Tight.killB ?_ | refine zar ?_)) (.inl rfl) (by simp) (clo1 (p:=fun x0=>zfr x0 s) fun d2 mem2 m0 x0 r2 hd2 ha2 hT2 hm0 hr2=>wI122 (mk_1:=.shr) G_122 hT2 hm0 (show 1≤d2 from hd2) ((ha2 _ (Nat.le_refl _)).trans (by simp)) hr2) h_2) ?_
 cases hp
 simp [Goal,FnEnd]
theorem pc81:PC Tryz.prog 81 C81:=pc_of (g:=g81) (zai _ g81_s.2.1 ⟨pc123,trivial⟩) (ent Tryz.func81) fun x y h=>w81 h

def C40:List AV→Option AV:=specP (X:=(List TStructure) × THeap × Unit) fun x=>zcu x.1 x.2.1
theorem C40_eq {set h_} {y} (h:zcu set h_=some y):C40 [av .shr set,av .shr h_]=some (Res.res y):=zah (x:=(set,h_,())) h
def g40:Cfg:={ P:=Tryz.prog,take:=[],keep:=[],gho:=[],ctx:=[(70,C70),(81,C81)] }
@[simp] theorem g40_s:type_of% (cfg_s (g:=g40) rfl):=cfg_s rfl
theorem w40 {set h_} {y} (hp:zcu set h_=some y):∃ m,callo g40 0 40 [av .shr set,av .shr h_] mem0=some (Res.res y,m):=by
 refine st0 [.tmp 4] Tryz.func40 ?_
 unfold zcu at hp
 obtain ⟨y_1,h_2,hp⟩:=zab hp
 have c_3:=C70_eq h_2
 simp at c_3
 obtain ⟨y_4,h_5,hp⟩:=zab hp
 have c_6:=C81_eq h_5
 simp at c_6
 cases hp
 simp [Tryz.f40,Goal,FnEnd,c_3,c_6]
theorem pc40:PC Tryz.prog 40 C40:=pc_of (g:=g40) (zai _ g40_s.2.1 ⟨pc70,pc81,trivial⟩) (ent Tryz.func40) fun x y h=>w40 h

def C118:List AV→Option AV:=specP (X:=Int × Int × Unit) fun x=>zfe x.1 x.2.1
theorem C118_eq {many bound} {y} (h:zfe many bound=some y):C118 [av .shr many,av .shr bound]=some (Res.res y):=zah (x:=(many,bound,())) h
def g118:Cfg:={ P:=Tryz.prog,take:=[(118,27),(118,36),(118,38)],keep:=[((118,3),{ hd:=[1,5,12,13],bx:=[],ex:=[5],rt:=[4] }),((118,6),{ hd:=[1,6,12,13,16,17,18],bx:=[],ex:=[1,6,12,13],rt:=[4] }),((118,9),{ hd:=[1,6,8,9,12,13,16,17,18],bx:=[],ex:=[1,6,12,13,16,17,18],rt:=[4] })],gho:=[],ctx:=[(95,C95)] }
@[simp] theorem g118_s:type_of% (cfg_s (g:=g118) rfl):=cfg_s rfl
theorem w118 {many bound} {y} (hp:zfe many bound=some y):∃ m,callo g118 0 118 [av .shr many,av .shr bound] mem0=some (Res.res y,m):=by
 refine st0 [.tmp 4] Tryz.func118 ?_
 unfold zfe at hp
 simp [Tryz.f118]
 obtain ⟨r_47,h_48,hp⟩:=zab hp
 obtain ⟨I_3,I_3_⟩:=exV fun (s_1:(List (List Int)) × Int) (σ:St)=>(σ.env 1=uI bound∧σ.env 5=uL .own s_1.1∧σ.env 12=uI many∧σ.env 13=uI s_1.2)∧σ.mem=mem0
 obtain ⟨X_4,X_4_⟩:=exV fun (r_47:(List (List Int))) (out:Out)=>∃ σ:St,out=.exit 0 σ∧σ.env 5=uL .own r_47∧σ.mem=mem0
 refine loopP ({ hd:=[1,5,12,13],bx:=[],ex:=[5],rt:=[4] }) I_3 X_4 h_48 (by exact rfl) ?_ ?_ ?_
 ·rw [I_3_]
  exact ⟨by simp [zac,zaa],by simp [zaa]⟩
 ·intro s_1 σ_5 a_2 hI hp
  rw [I_3_] at hI
  obtain ⟨q_7,q_6⟩:=hI
  try simp [q_7,q_6]
  rcases zad hp with ⟨h_8,hp⟩|⟨h_8,hp⟩
  ·try simp at h_8
   try simp [q_7,q_6,h_8]
   obtain ⟨r_42,h_43,hp⟩:=zab hp
   obtain ⟨I_11,I_11_⟩:=exV fun (s_9:(List (List Int)) × Int) (σ:St)=>(σ.env 1=uI bound∧σ.env 6=uL .own s_9.1∧σ.env 12=uI many∧σ.env 13=uI s_1.2∧σ.env 16=uL .bor s_1.1∧σ.env 17=uI (s_1.1.length:Int)∧σ.env 18=uI s_9.2)∧σ.mem=mem0
   obtain ⟨X_12,X_12_⟩:=exV fun (r_42:(List (List Int))) (out:Out)=>∃ σ:St,out=.exit 2 σ∧(σ.env 1=uI bound∧σ.env 6=uL .own r_42∧σ.env 12=uI many∧σ.env 13=uI s_1.2)∧σ.mem=mem0
   refine loopP ({ hd:=[1,6,12,13,16,17,18],bx:=[],ex:=[1,6,12,13],rt:=[4] }) I_11 X_12 h_43 (by exact rfl) ?_ ?_ ?_
   ·rw [I_11_]
    exact ⟨by simp [zac,zaa,q_7,q_6,h_8],by simp [zaa,q_7,q_6,h_8]⟩
   ·intro s_9 σ_13 a_10 hI hp
    rw [I_11_] at hI
    obtain ⟨q_15,q_14⟩:=hI
    try simp [h_8,q_15,q_14]
    rcases zad hp with ⟨h_16,hp⟩|⟨h_16,hp⟩
    ·try simp at h_16
     obtain ⟨e_17,h_18,hp⟩:=zab hp
     have b_19:=at_lo h_18
     have b_20:=at_hi h_18
     try simp at b_19 b_20
     have c_21:=seg_at' h_18 0 1 (by decide) (ds:=[.sl e_17.length (encL e_17)]) rfl
     try simp at c_21
     try simp [h_8,q_15,q_14,h_16,b_19,b_20,c_21]
     obtain ⟨r_37,h_38,hp⟩:=zab hp
     obtain ⟨I_24,I_24_⟩:=exV fun (s_22:(List (List Int)) × Int) (σ:St)=>(σ.env 1=uI bound∧σ.env 6=uL .own s_22.1∧σ.env 8=uL .bor e_17∧σ.env 9=uI s_22.2∧σ.env 12=uI many∧σ.env 13=uI s_1.2∧σ.env 16=uL .bor s_1.1∧σ.env 17=uI (s_1.1.length:Int)∧σ.env 18=uI s_9.2)∧σ.mem=mem0
     obtain ⟨X_25,X_25_⟩:=exV fun (r_37:(List (List Int))) (out:Out)=>∃ σ:St,out=.exit 4 σ∧(σ.env 1=uI bound∧σ.env 6=uL .own r_37∧σ.env 12=uI many∧σ.env 13=uI s_1.2∧σ.env 16=uL .bor s_1.1∧σ.env 17=uI (s_1.1.length:Int)∧σ.env 18=uI s_9.2)∧σ.mem=mem0
     refine loopP ({ hd:=[1,6,8,9,12,13,16,17,18],bx:=[],ex:=[1,6,12,13,16,17,18],rt:=[4] }) I_24 X_25 h_38 (by exact rfl) ?_ ?_ ?_
     ·rw [I_24_]
      exact ⟨by simp [zac,zaa,h_8,q_15,q_14,h_16],by simp [zaa,h_8,q_15,q_14,h_16]⟩
     ·intro s_22 σ_26 a_23 hI hp
      rw [I_24_] at hI
      obtain ⟨q_28,q_27⟩:=hI
      try simp [h_8,h_16,q_28,q_27]
      rcases zad hp with ⟨h_29,hp⟩|⟨h_29,hp⟩
      ·try simp at h_29
       obtain ⟨y_30,h_31,hp⟩:=zab hp
       have c_32:=C95_eq h_31
       simp at c_32
       obtain ⟨_,h_33,hp⟩:=zab hp
       have b_34:=zap h_33
       try simp at b_34
       obtain ⟨_,h_35,hp⟩:=zab hp
       have b_36:=zap h_35
       try simp at b_36
       cases hp
       try simp [h_8,h_16,q_28,q_27,h_29,c_32,b_34,b_36]
       refine zae ?_
       rw [I_24_]
       exact ⟨by simp [zac,zaa,h_8,h_16,q_28,q_27,h_29,c_32,b_34,b_36],by simp [zaa,h_8,h_16,q_28,q_27,h_29,c_32,b_34,b_36]⟩
      ·try simp at h_29
       cases hp
       try simp [h_8,h_16,q_28,q_27,h_29]
       refine zag ?_
       rw [X_25_]
       exact ⟨_,rfl,by simp [zac,zaa,h_8,h_16,q_28,q_27,h_29],by simp [zaa,h_8,h_16,q_28,q_27,h_29]⟩
     ·intro out hX
      rw [X_25_] at hX
      obtain ⟨σ_39,rfl,q_41,q_40⟩:=hX
      cases hp
      try simp [h_8,h_16,q_41,q_40]
      refine zae ?_
      rw [I_11_]
      exact ⟨by simp [zac,zaa,h_8,h_16,q_41,q_40],by simp [zaa,h_8,h_16,q_41,q_40]⟩
    ·try simp at h_16
     cases hp
     try simp [h_8,q_15,q_14,h_16]
     refine zag ?_
     rw [X_12_]
     exact ⟨_,rfl,by simp [zac,zaa,h_8,q_15,q_14,h_16],by simp [zaa,h_8,q_15,q_14,h_16]⟩
   ·intro out hX
    rw [X_12_] at hX
    obtain ⟨σ_44,rfl,q_46,q_45⟩:=hX
    cases hp
    try simp [h_8,q_46,q_45]
    refine zae ?_
    rw [I_3_]
    exact ⟨by simp [zac,zaa,h_8,q_46,q_45],by simp [zaa,h_8,q_46,q_45]⟩
  ·try simp at h_8
   cases hp
   try simp [q_7,q_6,h_8]
   refine zag ?_
   rw [X_4_]
   exact ⟨_,rfl,by simp [zac,zaa,q_7,q_6,h_8],by simp [zaa,q_7,q_6,h_8]⟩
 ·intro out hX
  rw [X_4_] at hX
  obtain ⟨σ_49,rfl,q_51,q_50⟩:=hX
  cases hp
  simp [Goal,FnEnd,q_51,q_50]
theorem pc118:PC Tryz.prog 118 C118:=pc_of (g:=g118) (zai _ g118_s.2.1 ⟨pc95,trivial⟩) (ent Tryz.func118) fun x y h=>w118 h
end Go.Proofs

