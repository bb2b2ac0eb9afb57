import Derived.Test.YtfcfpdcjepobpaaEvA14
set_option linter.unusedSimpArgs false
set_option linter.unusedVariables false
set_option linter.unnecessarySimpa false
noncomputable section
set_option maxHeartbeats 4000000
set_option maxRecDepth 100000
namespace Go.Proofs
open Go.Ev
abbrev G57 (g:Cfg):Prop:=Has Try.prog g 57 Try.f57 [] [] [] []
theorem wI57 {g:Cfg} (G:G57 g) {d:Nat} {mem:Mem} (hT:Tight d mem) {K_1:Key} {K_2:Key} {i:Int} {c0:Int} {c1:Int} (hk_1:K_1.1≤d) (hb_1:mem K_1=some [cI c0]) (hk_2:K_2.1≤d) (hb_2:mem K_2=some [cI c1]) {y} (hp:zdm i c0 c1=some y):callo g d 57 [av .shr i,.one (.ptr K_1 0),.one (.ptr K_2 0)] mem=some (Res.res y,mem):=by
 have gP:=G.P;have gt:=G.tk;have gr:=G.ro;have gg:=G.gh
 have hT2:memKill (fun k=>decide (d < k.1)) mem=mem:=hT
 have nk_1:∀ t,(K_1=(d+1,t))=False:=fun t=>by simp;intro h;rw [h] at hk_1;simp at hk_1;omega
 have nk_2:∀ t,(K_2=(d+1,t))=False:=fun t=>by simp;intro h;rw [h] at hk_2;simp at hk_2;omega
 refine zgw (Try.f57.body.getD .skip) [.tmp 4] G Try.func57 (by kernel_rfl) (by simp [Try.ntmps57]) rfl ?_
 unfold zdm at hp
 simp [Try.f57,gP,gt,gr,gg,hb_1,nk_1,hb_2,nk_2]
 rcases zad hp with ⟨h_1,hp⟩|⟨h_1,hp⟩
 ·try simp at h_1
  cases hp
  simp [Goal,FnEndI,zaw,gP,gt,gr,gg,hb_1,nk_1,hb_2,nk_2,h_1,hT2]
 ·try simp at h_1
  cases hp
  simp [Goal,FnEndI,zaw,gP,gt,gr,gg,hb_1,nk_1,hb_2,nk_2,h_1,hT2]

def C28:List AV→Option AV:=specP (X:=TStructure × Int × Unit) fun x=>zem x.1 x.2.1
theorem C28_eq {s t} {y} (h:zem s t=some y):C28 [av .shr s,av .shr t]=some (Res.res y):=zai (x:=(s,t,())) h
def g28:Cfg:={ P:=Try.prog,take:=[(28,21),(28,39),(28,53)],keep:=[((28,4),{ hd:=[2,4,5,6,7,16,17],bx:=[],ex:=[4,5],rt:=[4] }),((28,8),{ hd:=[2,4,5,6,7,8,16,17,34,35],bx:=[],ex:=[2,4,5,6,7,16,17],rt:=[4] })],gho:=[],ctx:=[(26,C26),(54,C54)],ro:=[(28,26),(28,43),(28,46)],away:=[(28,12,5)] }
@[simp] theorem g28_s:type_of% (cfg_s (g:=g28) rfl):=cfg_s rfl
@[simp] theorem g28_wa (d f dst key):awayB g28 d f dst key=awayL [(28,12,5)] d f dst key:=rfl
@[simp] theorem g28_wl (d f a key):lateB g28 d f a key=lateL [(28,12,5)] d f a key:=rfl
theorem w28 {s t} {y} (hp:zem s t=some y):∃ m,callo g28 0 28 [av .shr s,av .shr t] mem0=some (Res.res y,m):=by
 have G_57:G57 g28:=⟨rfl,by kernel_rfl,rfl,fun t=>by simp,noAway (fun t=>by simp) (by simp) (fun t=>by simp),by simp [lookN],fun i=>by simp [lookK],by simp [g28,lookK],by simp⟩
 refine st0 [.cell 4 27] Try.func28 ?_
 unfold zem at hp
 simp [Try.f28]
 obtain ⟨r_46,h_47,hp⟩:=zaa hp
 obtain ⟨I_3,I_3_⟩:=exV fun (s_1:Int × (List TNode) × (List Int)) (σ:St)=>(σ.env 2=uP (1,2)∧σ.env 4=uP (1,4)∧σ.env 5=uP (1,5)∧σ.env 6=uP (1,6)∧σ.env 7=.one (.fn 57 [((1,6),0),((1,3),0)])∧σ.env 16=uI (addI (s.nodes.length:Int) 1)∧σ.env 17=uI s_1.1∧σ.mem (1,2)=some [cL .shr s.nodes,cL .shr s.next]∧σ.mem (1,3)=some [cI t]∧σ.mem (1,4)=some [.l .own 0 [],.l .own 0 []]∧σ.mem (1,5)=some [cL .own s_1.2.1,cL .own s_1.2.2]∧σ.mem (1,6)=some [cI (s.nodes.length:Int)])∧Tight (1) σ.mem∧NoBox [(1,2),(1,3),(1,4),(1,5),(1,6)] σ.mem
 obtain ⟨X_4,X_4_⟩:=exV fun (r_46:(List TNode) × (List Int)) (out:Out)=>∃ σ:St,out=.exit 0 σ∧(σ.env 4=uP (1,4)∧σ.env 5=uP (1,5)∧σ.mem (1,2)=some [cL .shr s.nodes,cL .shr s.next]∧σ.mem (1,3)=some [cI t]∧σ.mem (1,4)=some [.l .own 0 [],.l .own 0 []]∧σ.mem (1,5)=some [cL .own r_46.1,cL .own r_46.2]∧σ.mem (1,6)=some [cI (s.nodes.length:Int)])∧Tight (1) σ.mem∧NoBox [(1,2),(1,3),(1,4),(1,5),(1,6)] σ.mem
 refine loopP ({ hd:=[2,4,5,6,7,16,17],bx:=[],ex:=[4,5],rt:=[4] }) I_3 X_4 h_47 (by exact rfl) ?_ ?_ ?_
 ·rw [I_3_]
  exact ⟨by simp [zac,zab],(by repeat (first | exact zak _ | exact hT.up | exact hT | refine Tight.restrict ?_ | refine Tight.upd ?_ (by simp) (by simp) | refine Tight.killB ?_ | refine zar ?_)),NoBox.restrict (by intro k hk hb;simp at hk hb;simp [hk,hb])⟩
 ·intro s_1 σ_5 a_2 hI hp
  rw [I_3_] at hI
  obtain ⟨q_8,ht_6,hn_7⟩:=hI
  try simp [q_8]
  rcases zad hp with ⟨h_9,hp⟩|⟨h_9,hp⟩
  ·try simp at h_9
   obtain ⟨y_10,h_11,hp⟩:=zaa hp
   try simp [q_8,h_9]
   refine zii [av .shr s_1.1,.one (.ptr (1,6) 0),.one (.ptr (1,3) 0)] (Res.res y_10) (by kernel_rfl) (by simp [q_8,h_9]) (wI57 G_57 (by repeat (first | exact ht_6 | exact zak _ | exact hT.up | exact hT | (simp only [q_8];done) | refine Tight.upd ?_ (by simp) (by simp) | refine Tight.killB ?_ | refine zar ?_)) (by simp) (by simp [q_8,h_9]) (by simp) (by simp [q_8,h_9]) h_11) ?_
   obtain ⟨e_12,h_13,hp⟩:=zaa hp
   have b_14:=at_lo h_13
   have b_15:=at_hi h_13
   try simp at b_14 b_15
   have c_16:=seg_at' h_13 0 4 (by decide) (ds:=[.sl e_12.vars.length (encL e_12.vars),.sl e_12.reach.length (encL e_12.reach),.sc (.int .i64 e_12.shared),.sc (.int .i64 e_12.many)]) rfl
   try simp at c_16
   obtain ⟨y_17,h_18,hp⟩:=zaa hp
   have c_19:=C54_eq h_18
   simp at c_19
   obtain ⟨_,h_20,hp⟩:=zaa hp
   have b_21:=zau h_20
   try simp at b_21
   try simp [q_8,h_9,b_14,b_15,c_16,c_19,b_21]
   obtain ⟨r_40,h_41,hp⟩:=zaa hp
   obtain ⟨I_24,I_24_⟩:=exV fun (s_22:Int × (List Int)) (σ:St)=>(σ.env 2=uP (1,2)∧σ.env 4=uP (1,4)∧σ.env 5=uP (1,5)∧σ.env 6=uP (1,6)∧σ.env 7=.one (.fn 57 [((1,6),0),((1,3),0)])∧σ.env 8=uI s_1.1∧σ.env 16=uI (addI (s.nodes.length:Int) 1)∧σ.env 17=uI s_1.1∧σ.env 34=uI (addI (s.nodes.length:Int) 1)∧σ.env 35=uI s_22.1∧σ.mem (1,2)=some [cL .shr s.nodes,cL .shr s.next]∧σ.mem (1,3)=some [cI t]∧σ.mem (1,4)=some [.l .own 0 [],.l .own 0 []]∧σ.mem (1,5)=some [cL .own (s_1.2.1 ++ [y_17]),cL .own s_22.2]∧σ.mem (1,6)=some [cI (s.nodes.length:Int)])∧Tight (1) σ.mem∧NoBox [(1,2),(1,3),(1,4),(1,5),(1,6)] σ.mem
   obtain ⟨X_25,X_25_⟩:=exV fun (r_40:(List Int)) (out:Out)=>∃ σ:St,out=.exit 2 σ∧(σ.env 2=uP (1,2)∧σ.env 4=uP (1,4)∧σ.env 5=uP (1,5)∧σ.env 6=uP (1,6)∧σ.env 7=.one (.fn 57 [((1,6),0),((1,3),0)])∧σ.env 16=uI (addI (s.nodes.length:Int) 1)∧σ.env 17=uI s_1.1∧σ.mem (1,2)=some [cL .shr s.nodes,cL .shr s.next]∧σ.mem (1,3)=some [cI t]∧σ.mem (1,4)=some [.l .own 0 [],.l .own 0 []]∧σ.mem (1,5)=some [cL .own (s_1.2.1 ++ [y_17]),cL .own r_40]∧σ.mem (1,6)=some [cI (s.nodes.length:Int)])∧Tight (1) σ.mem∧NoBox [(1,2),(1,3),(1,4),(1,5),(1,6)] σ.mem
   refine loopP ({ hd:=[2,4,5,6,7,8,16,17,34,35],bx:=[],ex:=[2,4,5,6,7,16,17],rt:=[4] }) I_24 X_25 h_41 (by exact rfl) ?_ ?_ ?_
   ·rw [I_24_]
    exact ⟨by simp [zac,zab,q_8,h_9],(by repeat (first | exact ht_6 | exact zak _ | exact hT.up | exact hT | refine Tight.restrict ?_ | refine Tight.upd ?_ (by simp) (by simp) | refine Tight.killB ?_ | refine zar ?_)),NoBox.restrict (by intro k hk hb;simp at hk hb;simp [hk,hb,q_8,h_9,hn_7 k (by simp [hk,hb])])⟩
   ·intro s_22 σ_26 a_23 hI hp
    rw [I_24_] at hI
    obtain ⟨q_29,ht_27,hn_28⟩:=hI
    try simp [h_9,q_29]
    rcases zad hp with ⟨h_30,hp⟩|⟨h_30,hp⟩
    ·try simp at h_30
     obtain ⟨y_31,h_32,hp⟩:=zaa hp
     try simp [h_9,q_29,h_30]
     refine zii [av .shr s_1.1,.one (.ptr (1,6) 0),.one (.ptr (1,3) 0)] (Res.res y_31) (by kernel_rfl) (by simp [h_9,q_29,h_30]) (wI57 G_57 (by repeat (first | exact ht_27 | exact zak _ | exact hT.up | exact hT | (simp only [q_29];done) | refine Tight.upd ?_ (by simp) (by simp) | refine Tight.killB ?_ | refine zar ?_)) (by simp) (by simp [h_9,q_29,h_30]) (by simp) (by simp [h_9,q_29,h_30]) h_32) ?_
     obtain ⟨y_33,h_34,hp⟩:=zaa hp
     try simp [h_9,q_29,h_30]
     refine zii [av .shr s_22.1,.one (.ptr (1,6) 0),.one (.ptr (1,3) 0)] (Res.res y_33) (by kernel_rfl) (by simp [h_9,q_29,h_30]) (wI57 G_57 (by repeat (first | exact ht_27 | exact zak _ | exact hT.up | exact hT | (simp only [q_29];done) | refine Tight.upd ?_ (by simp) (by simp) | refine Tight.killB ?_ | refine zar ?_)) (by simp) (by simp [h_9,q_29,h_30]) (by simp) (by simp [h_9,q_29,h_30]) h_34) ?_
     obtain ⟨y_35,h_36,hp⟩:=zaa hp
     have c_37:=C26_eq h_36
     simp at c_37
     obtain ⟨_,h_38,hp⟩:=zaa hp
     have b_39:=zau h_38
     try simp at b_39
     cases hp
     try simp [h_9,q_29,h_30,c_37,b_39]
     refine zae ?_
     rw [I_24_]
     exact ⟨by simp [zac,zab,h_9,q_29,h_30,c_37,b_39],(by repeat (first | exact ht_27 | exact zak _ | exact hT.up | exact hT | refine Tight.restrict ?_ | refine Tight.upd ?_ (by simp) (by simp) | refine Tight.killB ?_ | refine zar ?_)),NoBox.restrict (by intro k hk hb;simp at hk hb;simp [hk,hb,h_9,q_29,h_30,c_37,b_39,hn_28 k (by simp [hk,hb])])⟩
    ·try simp at h_30
     cases hp
     try simp [h_9,q_29,h_30]
     refine zag ?_
     rw [X_25_]
     exact ⟨_,rfl,by simp [zac,zab,h_9,q_29,h_30],(by repeat (first | exact ht_27 | exact zak _ | exact hT.up | exact hT | refine Tight.restrict ?_ | refine Tight.upd ?_ (by simp) (by simp) | refine Tight.killB ?_ | refine zar ?_)),NoBox.restrict (by intro k hk hb;simp at hk hb;simp [hk,hb,h_9,q_29,h_30,hn_28 k (by simp [hk,hb])])⟩
   ·intro out hX
    rw [X_25_] at hX
    obtain ⟨σ_42,rfl,q_45,ht_43,hn_44⟩:=hX
    cases hp
    try simp [h_9,q_45]
    refine zae ?_
    rw [I_3_]
    exact ⟨by simp [zac,zab,h_9,q_45],(by repeat (first | exact ht_43 | exact zak _ | exact hT.up | exact hT | refine Tight.restrict ?_ | refine Tight.upd ?_ (by simp) (by simp) | refine Tight.killB ?_ | refine zar ?_)),NoBox.restrict (by intro k hk hb;simp at hk hb;simp [hk,hb,h_9,q_45,hn_44 k (by simp [hk,hb])])⟩
  ·try simp at h_9
   cases hp
   try simp [q_8,h_9]
   refine zag ?_
   rw [X_4_]
   exact ⟨_,rfl,by simp [zac,zab,q_8,h_9],(by repeat (first | exact ht_6 | exact zak _ | exact hT.up | exact hT | refine Tight.restrict ?_ | refine Tight.upd ?_ (by simp) (by simp) | refine Tight.killB ?_ | refine zar ?_)),NoBox.restrict (by intro k hk hb;simp at hk hb;simp [hk,hb,q_8,h_9,hn_7 k (by simp [hk,hb])])⟩
 ·intro out hX
  rw [X_4_] at hX
  obtain ⟨σ_48,rfl,q_51,ht_49,hn_50⟩:=hX
  cases hp
  simp [Goal,FnEnd,retR,rsrc,RSrc.val,nodupR,nodup,tupPart,q_51]
theorem pc28:PC Try.prog 28 C28:=pc_of (g:=g28) (zah _ g28_s.2.1 ⟨pc26,pc54,trivial⟩) (ent Try.func28) fun x y h=>w28 h

def C6:List AV→Option AV:=specP (X:=TStructure × Int × Unit) fun x=>zci x.1 x.2.1
theorem C6_eq {s k_} {y} (h:zci s k_=some y):C6 [av .shr s,av .shr k_]=some (Res.res y):=zai (x:=(s,k_,())) h
def g6:Cfg:={ P:=Try.prog,take:=[(6,12),(6,57),(6,78),(6,90)],keep:=[((6,5),{ hd:=[2,5,6,30,31,32],bx:=[],ex:=[2,5,6],rt:=[4] }),((6,12),{ hd:=[2,5,9,51,52,53],bx:=[],ex:=[9],rt:=[4] })],gho:=[],ctx:=[(22,C22),(23,C23),(24,C24),(25,C25),(26,C26),(27,C27),(28,C28)] }
@[simp] theorem g6_s:type_of% (cfg_s (g:=g6) rfl):=cfg_s rfl
theorem w6 {s k_} {y} (hp:zci s k_=some y):∃ m,callo g6 0 6 [av .shr s,av .shr k_] mem0=some (Res.res y,m):=by
 refine st0 [.tmp 4] Try.func6 ?_
 unfold zci at hp
 obtain ⟨y_1,h_2,hp⟩:=zaa hp
 have c_3:=C22_eq h_2
 simp at c_3
 obtain ⟨y_4,h_5,hp⟩:=zaa hp
 have c_6:=C24_eq h_5
 simp at c_6
 obtain ⟨y_7,h_8,hp⟩:=zaa hp
 have c_9:=C23_eq h_8
 simp at c_9
 simp [Try.f6,c_3,c_6,c_9]
 rcases zad hp with ⟨h_10,hp⟩|⟨h_10,hp⟩
 ·try simp at h_10
  try simp [h_10]
  rcases zad hp with ⟨h_11,hp⟩|⟨h_11,hp⟩
  ·try simp at h_11
   obtain ⟨y_12,h_13,hp⟩:=zaa hp
   have c_14:=C25_eq h_13
   simp at c_14
   cases hp
   simp [Goal,FnEnd,h_10,h_11,c_14]
  ·try simp at h_11
   try simp [h_10,h_11]
   obtain ⟨r_35,h_36,hp⟩:=zaa hp
   obtain ⟨I_17,I_17_⟩:=exV fun (s_15:Int) (σ:St)=>(σ.env 2=uP (1,2)∧σ.env 5=uI y_1.1∧σ.env 6=uL .own y_1.2∧σ.env 30=uL .bor y_1.2∧σ.env 31=uI (y_1.2.length:Int)∧σ.env 32=uI s_15∧σ.mem (1,2)=some [cL .shr s.nodes,cL .shr s.next])∧NoBox [(1,2)] σ.mem
   obtain ⟨X_18,X_18_⟩:=exV fun (r_35:((List TStructure)) ⊕ (Unit)) (out:Out)=>Sum.elim (fun r_35=>∃ σ:St,out=.ret σ∧(σ.env 4=uL .own r_35∧σ.mem (1,2)=some [cL .shr s.nodes,cL .shr s.next])∧NoBox [(1,2)] σ.mem) (fun r_35=>∃ σ:St,out=.exit 0 σ∧(σ.env 2=uP (1,2)∧σ.env 5=uI y_1.1∧σ.env 6=uL .own y_1.2∧σ.mem (1,2)=some [cL .shr s.nodes,cL .shr s.next])∧NoBox [(1,2)] σ.mem) r_35
   refine loopP ({ hd:=[2,5,6,30,31,32],bx:=[],ex:=[2,5,6],rt:=[4] }) I_17 X_18 h_36 (by exact rfl) ?_ ?_ ?_
   ·rw [I_17_]
    exact ⟨by simp [zac,zab,h_10,h_11],NoBox.restrict (by intro k hk hb;simp at hk hb;simp [hk,hb,h_10,h_11])⟩
   ·intro s_15 σ_19 a_16 hI hp
    rw [I_17_] at hI
    obtain ⟨q_21,hn_20⟩:=hI
    try simp [h_10,h_11,q_21]
    rcases zad hp with ⟨h_22,hp⟩|⟨h_22,hp⟩
    ·try simp at h_22
     obtain ⟨e_23,h_24,hp⟩:=zaa hp
     have b_25:=at_lo h_24
     have b_26:=at_hi h_24
     try simp at b_25 b_26
     have c_27:=seg_at' h_24 0 1 (by decide) (ds:=[.sc (.int .i64 e_23)]) rfl
     try simp at c_27
     obtain ⟨y_28,h_29,hp⟩:=zaa hp
     have c_30:=C26_eq h_29
     simp at c_30
     try simp [h_10,h_11,q_21,h_22,b_25,b_26,c_27,c_30]
     rcases zad hp with ⟨h_31,hp⟩|⟨h_31,hp⟩
     ·try simp at h_31
      obtain ⟨y_32,h_33,hp⟩:=zaa hp
      have c_34:=C27_eq h_33
      simp at c_34
      cases hp
      try simp [h_10,h_11,q_21,h_22,h_31,c_34]
      refine zaq ?_
      rw [X_18_]
      exact ⟨_,rfl,by simp [zac,zab,h_10,h_11,q_21,h_22,h_31,c_34],NoBox.restrict (by intro k hk hb;simp at hk hb;simp [hk,hb,h_10,h_11,q_21,h_22,h_31,c_34,hn_20 k (by simp [hk,hb])])⟩
     ·try simp at h_31
      cases hp
      try simp [h_10,h_11,q_21,h_22,h_31]
      refine zae ?_
      rw [I_17_]
      exact ⟨by simp [zac,zab,h_10,h_11,q_21,h_22,h_31],NoBox.restrict (by intro k hk hb;simp at hk hb;simp [hk,hb,h_10,h_11,q_21,h_22,h_31,hn_20 k (by simp [hk,hb])])⟩
    ·try simp at h_22
     cases hp
     try simp [h_10,h_11,q_21,h_22]
     refine zag ?_
     rw [X_18_]
     exact ⟨_,rfl,by simp [zac,zab,h_10,h_11,q_21,h_22],NoBox.restrict (by intro k hk hb;simp at hk hb;simp [hk,hb,h_10,h_11,q_21,h_22,hn_20 k (by simp [hk,hb])])⟩
   ·intro out hX
    rw [X_18_] at hX
    rcases r_35 with r_35 | r_35
    ·simp only [Sum.elim_inl,Sum.elim_inr] at hX hp
     obtain ⟨σ_37,rfl,q_39,hn_38⟩:=hX
     cases hp
     simp [Goal,FnEnd,h_10,h_11,q_39]
    ·simp only [Sum.elim_inl,Sum.elim_inr] at hX hp
     obtain ⟨σ_40,rfl,q_42,hn_41⟩:=hX
     obtain ⟨y_43,h_44,hp⟩:=zaa hp
     have c_45:=C27_eq h_44
     simp at c_45
     try simp [h_10,h_11,q_42,c_45]
     obtain ⟨r_82,h_83,hp⟩:=zaa hp
     obtain ⟨I_48,I_48_⟩:=exV fun (s_46:(List TStructure) × Int) (σ:St)=>(σ.env 2=uP (1,2)∧σ.env 5=uI y_1.1∧σ.env 9=uL .own s_46.1∧σ.env 51=uL .bor y_1.2∧σ.env 52=uI (y_1.2.length:Int)∧σ.env 53=uI s_46.2∧σ.mem (1,2)=some [cL .shr s.nodes,cL .shr s.next])∧NoBox [(1,2)] σ.mem
     obtain ⟨X_49,X_49_⟩:=exV fun (r_82:((List TStructure)) ⊕ ((List TStructure))) (out:Out)=>Sum.elim (fun r_82=>∃ σ:St,out=.ret σ∧(σ.env 4=uL .own r_82∧σ.mem (1,2)=some [cL .shr s.nodes,cL .shr s.next])∧NoBox [(1,2)] σ.mem) (fun r_82=>∃ σ:St,out=.exit 2 σ∧(σ.env 9=uL .own r_82∧σ.mem (1,2)=some [cL .shr s.nodes,cL .shr s.next])∧NoBox [(1,2)] σ.mem) r_82
     refine loopP ({ hd:=[2,5,9,51,52,53],bx:=[],ex:=[9],rt:=[4] }) I_48 X_49 h_83 (by exact rfl) ?_ ?_ ?_
     ·rw [I_48_]
      exact ⟨by simp [zac,zab,h_10,h_11,q_42],NoBox.restrict (by intro k hk hb;simp at hk hb;simp [hk,hb,h_10,h_11,q_42,hn_41 k (by simp [hk,hb])])⟩
     ·intro s_46 σ_50 a_47 hI hp
      rw [I_48_] at hI
      obtain ⟨q_52,hn_51⟩:=hI
      try simp [h_10,h_11,q_52]
      rcases zad hp with ⟨h_53,hp⟩|⟨h_53,hp⟩
      ·try simp at h_53
       obtain ⟨e_54,h_55,hp⟩:=zaa hp
       have b_56:=at_lo h_55
       have b_57:=at_hi h_55
       try simp at b_56 b_57
       have c_58:=seg_at' h_55 0 1 (by decide) (ds:=[.sc (.int .i64 e_54)]) rfl
       try simp at c_58
       obtain ⟨y_59,h_60,hp⟩:=zaa hp
       have c_61:=C27_eq h_60
       simp at c_61
       obtain ⟨_,h_62,hp⟩:=zaa hp
       have b_63:=zau h_62
       try simp at b_63
       obtain ⟨e_64,h_65,hp⟩:=zaa hp
       have b_66:=at_lo h_65
       have b_67:=at_hi h_65
       try simp at b_66 b_67
       have c_68:=seg_at' h_65 3 1 (by decide) (ds:=[.sc (.int .i64 e_64.many)]) rfl
       try simp at c_68
       try simp [h_10,h_11,q_52,h_53,b_56,b_57,c_58,c_61,b_63,b_66,b_67,c_68]
       rcases zad hp with ⟨h_69,hp⟩|⟨h_69,hp⟩
       ·try simp at h_69
        cases hp
        try simp [h_10,h_11,q_52,h_53,h_69]
        refine zae ?_
        rw [I_48_]
        exact ⟨by simp [zac,zab,h_10,h_11,q_52,h_53,h_69],NoBox.restrict (by intro k hk hb;simp at hk hb;simp [hk,hb,h_10,h_11,q_52,h_53,h_69,hn_51 k (by simp [hk,hb])])⟩
       ·try simp at h_69
        try simp [h_10,h_11,q_52,h_53,h_69]
        rcases zad hp with ⟨h_70,hp⟩|⟨h_70,hp⟩
        ·try simp at h_70
         obtain ⟨y_71,h_72,hp⟩:=zaa hp
         have c_73:=C25_eq h_72
         simp at c_73
         cases hp
         try simp [h_10,h_11,q_52,h_53,h_69,h_70,c_73]
         refine zaq ?_
         rw [X_49_]
         exact ⟨_,rfl,by simp [zac,zab,h_10,h_11,q_52,h_53,h_69,h_70,c_73],NoBox.restrict (by intro k hk hb;simp at hk hb;simp [hk,hb,h_10,h_11,q_52,h_53,h_69,h_70,c_73,hn_51 k (by simp [hk,hb])])⟩
        ·try simp at h_70
         obtain ⟨y_74,h_75,hp⟩:=zaa hp
         have c_76:=C28_eq h_75
         simp at c_76
         obtain ⟨y_77,h_78,hp⟩:=zaa hp
         have c_79:=C27_eq h_78
         simp at c_79
         obtain ⟨_,h_80,hp⟩:=zaa hp
         have b_81:=zau h_80
         try simp at b_81
         cases hp
         try simp [h_10,h_11,q_52,h_53,h_69,h_70,c_76,c_79,b_81]
         refine zae ?_
         rw [I_48_]
         exact ⟨by simp [zac,zab,h_10,h_11,q_52,h_53,h_69,h_70,c_76,c_79,b_81],NoBox.restrict (by intro k hk hb;simp at hk hb;simp [hk,hb,h_10,h_11,q_52,h_53,h_69,h_70,c_76,c_79,b_81,hn_51 k (by simp [hk,hb])])⟩
      ·try simp at h_53
       cases hp
       try simp [h_10,h_11,q_52,h_53]
       refine zag ?_
       rw [X_49_]
       exact ⟨_,rfl,by simp [zac,zab,h_10,h_11,q_52,h_53],NoBox.restrict (by intro k hk hb;simp at hk hb;simp [hk,hb,h_10,h_11,q_52,h_53,hn_51 k (by simp [hk,hb])])⟩
     ·intro out hX
      rw [X_49_] at hX
      rcases r_82 with r_82 | r_82
      ·simp only [Sum.elim_inl,Sum.elim_inr] at hX hp
       obtain ⟨σ_84,rfl,q_86,hn_85⟩:=hX
       cases hp
       simp [Goal,FnEnd,h_10,h_11,q_86]
      ·simp only [Sum.elim_inl,Sum.elim_inr] at hX hp
       obtain ⟨σ_87,rfl,q_89,hn_88⟩:=hX
       cases hp
       simp [Goal,FnEnd,h_10,h_11,q_89]
 ·try simp at h_10
  obtain ⟨y_90,h_91,hp⟩:=zaa hp
  have c_92:=C25_eq h_91
  simp at c_92
  cases hp
  simp [Goal,FnEnd,h_10,c_92]
theorem pc6:PC Try.prog 6 C6:=pc_of (g:=g6) (zah _ g6_s.2.1 ⟨pc22,pc23,pc24,pc25,pc26,pc27,pc28,trivial⟩) (ent Try.func6) fun x y h=>w6 h

def C29:List AV→Option AV:=specP (X:=TStructure × Int × Unit) fun x=>zdr x.1 x.2.1
theorem C29_eq {s k_} {y} (h:zdr s k_=some y):C29 [av .shr s,av .shr k_]=some (Res.res y):=zai (x:=(s,k_,())) h
def g29:Cfg:={ P:=Try.prog,take:=[],keep:=[((29,2),{ hd:=[1,2,5],bx:=[],ex:=[],rt:=[4] })],gho:=[],ctx:=[(58,C58)] }
@[simp] theorem g29_s:type_of% (cfg_s (g:=g29) rfl):=cfg_s rfl
theorem w29 {s k_} {y} (hp:zdr s k_=some y):∃ m,callo g29 0 29 [av .shr s,av .shr k_] mem0=some (Res.res y,m):=by
 refine st0 [.tmp 4] Try.func29 ?_
 unfold zdr at hp
 simp [Try.f29]
 obtain ⟨r_24,h_25,hp⟩:=zaa hp
 obtain ⟨I_3,I_3_⟩:=exV fun (s_1:Int) (σ:St)=>(σ.env 1=uI k_∧σ.env 2=uP (1,2)∧σ.env 5=uI s_1∧σ.mem (1,2)=some [cL .shr s.nodes,cL .shr s.next])∧NoBox [(1,2)] σ.mem
 obtain ⟨X_4,X_4_⟩:=exV fun (r_24:(Int) ⊕ (Unit)) (out:Out)=>Sum.elim (fun r_24=>∃ σ:St,out=.ret σ∧(σ.env 4=uI r_24∧σ.mem (1,2)=some [cL .shr s.nodes,cL .shr s.next])∧NoBox [(1,2)] σ.mem) (fun r_24=>∃ σ:St,out=.exit 0 σ∧σ.mem (1,2)=some [cL .shr s.nodes,cL .shr s.next]∧NoBox [(1,2)] σ.mem) r_24
 refine loopP ({ hd:=[1,2,5],bx:=[],ex:=[],rt:=[4] }) I_3 X_4 h_25 (by exact rfl) ?_ ?_ ?_
 ·rw [I_3_]
  exact ⟨by simp [zac,zab],NoBox.restrict (by intro k hk hb;simp at hk hb;simp [hk,hb])⟩
 ·intro s_1 σ_5 a_2 hI hp
  rw [I_3_] at hI
  obtain ⟨q_7,hn_6⟩:=hI
  try simp [q_7]
  rcases zad hp with ⟨h_8,hp⟩|⟨h_8,hp⟩
  ·try simp at h_8
   obtain ⟨e_9,h_10,hp⟩:=zaa hp
   have b_11:=at_lo h_10
   have b_12:=at_hi h_10
   try simp at b_11 b_12
   have c_13:=seg_at' h_10 0 1 (by decide) (ds:=[.sl e_9.vars.length (encL e_9.vars)]) rfl
   try simp at c_13
   obtain ⟨y_14,h_15,hp⟩:=zaa hp
   have c_16:=C58_eq h_15
   simp at c_16
   try simp [q_7,h_8,b_11,b_12,c_13,c_16]
   rcases zad hp with ⟨h_17,hp⟩|⟨h_17,hp⟩
   ·try simp at h_17
    obtain ⟨e_18,h_19,hp⟩:=zaa hp
    cases Option.some.inj (h_10.symm.trans h_19)
    have b_20:=at_lo h_10
    have b_21:=at_hi h_10
    try simp at b_20 b_21
    have c_22:=seg_at' h_10 3 1 (by decide) (ds:=[.sc (.int .i64 e_9.many)]) rfl
    try simp at c_22
    try simp [q_7,h_8,h_17,b_20,b_21,c_22]
    rcases zad hp with ⟨h_23,hp⟩|⟨h_23,hp⟩
    ·try simp at h_23
     cases hp
     try simp [q_7,h_8,h_17,h_23]
     refine zaq ?_
     rw [X_4_]
     exact ⟨_,rfl,by simp [zac,zab,q_7,h_8,h_17,h_23],NoBox.restrict (by intro k hk hb;simp at hk hb;simp [hk,hb,q_7,h_8,h_17,h_23,hn_6 k (by simp [hk,hb])])⟩
    ·try simp at h_23
     cases hp
     try simp [q_7,h_8,h_17,h_23]
     refine zae ?_
     rw [I_3_]
     exact ⟨by simp [zac,zab,q_7,h_8,h_17,h_23],NoBox.restrict (by intro k hk hb;simp at hk hb;simp [hk,hb,q_7,h_8,h_17,h_23,hn_6 k (by simp [hk,hb])])⟩
   ·try simp at h_17
    cases hp
    try simp [q_7,h_8,h_17]
    refine zae ?_
    rw [I_3_]
    exact ⟨by simp [zac,zab,q_7,h_8,h_17],NoBox.restrict (by intro k hk hb;simp at hk hb;simp [hk,hb,q_7,h_8,h_17,hn_6 k (by simp [hk,hb])])⟩
  ·try simp at h_8
   cases hp
   try simp [q_7,h_8]
   refine zag ?_
   rw [X_4_]
   exact ⟨_,rfl,by simp [zac,zab,q_7,h_8],NoBox.restrict (by intro k hk hb;simp at hk hb;simp [hk,hb,q_7,h_8,hn_6 k (by simp [hk,hb])])⟩
 ·intro out hX
  rw [X_4_] at hX
  rcases r_24 with r_24 | r_24
  ·simp only [Sum.elim_inl,Sum.elim_inr] at hX hp
   obtain ⟨σ_26,rfl,q_28,hn_27⟩:=hX
   cases hp
   simp [Goal,FnEnd,q_28]
  ·simp only [Sum.elim_inl,Sum.elim_inr] at hX hp
   obtain ⟨σ_29,rfl,q_31,hn_30⟩:=hX
   cases hp
   simp [Goal,FnEnd,q_31]
theorem pc29:PC Try.prog 29 C29:=pc_of (g:=g29) (zah _ g29_s.2.1 ⟨pc58,trivial⟩) (ent Try.func29) fun x y h=>w29 h

def C32:List AV→Option AV:=specP (X:=TStructure × Int × Unit) fun x=>zcj x.1 x.2.1
theorem C32_eq {s b_} {y} (h:zcj s b_=some y):C32 [av .shr s,av .shr b_]=some (Res.res y):=zai (x:=(s,b_,())) h
def g32:Cfg:={ P:=Try.prog,take:=[(32,20),(32,24)],keep:=[((32,3),{ hd:=[1,2,5,6],bx:=[],ex:=[5],rt:=[4] })],gho:=[],ctx:=[(33,C33)] }
@[simp] theorem g32_s:type_of% (cfg_s (g:=g32) rfl):=cfg_s rfl
theorem w32 {s b_} {y} (hp:zcj s b_=some y):∃ m,callo g32 0 32 [av .shr s,av .shr b_] mem0=some (Res.res y,m):=by
 refine st0 [.tmp 4] Try.func32 ?_
 unfold zcj at hp
 simp [Try.f32]
 obtain ⟨r_15,h_16,hp⟩:=zaa hp
 obtain ⟨I_3,I_3_⟩:=exV fun (s_1:(List Int) × Int) (σ:St)=>(σ.env 1=uI b_∧σ.env 2=uP (1,2)∧σ.env 5=uL .own s_1.1∧σ.env 6=uI s_1.2∧σ.mem (1,2)=some [cL .shr s.nodes,cL .shr s.next])∧NoBox [(1,2)] σ.mem
 obtain ⟨X_4,X_4_⟩:=exV fun (r_15:(List Int)) (out:Out)=>∃ σ:St,out=.exit 0 σ∧(σ.env 5=uL .own r_15∧σ.mem (1,2)=some [cL .shr s.nodes,cL .shr s.next])∧NoBox [(1,2)] σ.mem
 refine loopP ({ hd:=[1,2,5,6],bx:=[],ex:=[5],rt:=[4] }) I_3 X_4 h_16 (by exact rfl) ?_ ?_ ?_
 ·rw [I_3_]
  exact ⟨by simp [zac,zab],NoBox.restrict (by intro k hk hb;simp at hk hb;simp [hk,hb])⟩
 ·intro s_1 σ_5 a_2 hI hp
  rw [I_3_] at hI
  obtain ⟨q_7,hn_6⟩:=hI
  try simp [q_7]
  rcases zad hp with ⟨h_8,hp⟩|⟨h_8,hp⟩
  ·try simp at h_8
   obtain ⟨y_9,h_10,hp⟩:=zaa hp
   have c_11:=zjl h_10
   simp at c_11
   try simp [q_7,h_8,c_11]
   rcases zad hp with ⟨h_12,hp⟩|⟨h_12,hp⟩
   ·try simp at h_12
    obtain ⟨_,h_13,hp⟩:=zaa hp
    have b_14:=zau h_13
    try simp at b_14
    cases hp
    try simp [q_7,h_8,h_12,b_14]
    refine zae ?_
    rw [I_3_]
    exact ⟨by simp [zac,zab,q_7,h_8,h_12,b_14],NoBox.restrict (by intro k hk hb;simp at hk hb;simp [hk,hb,q_7,h_8,h_12,b_14,hn_6 k (by simp [hk,hb])])⟩
   ·try simp at h_12
    cases hp
    try simp [q_7,h_8,h_12]
    refine zae ?_
    rw [I_3_]
    exact ⟨by simp [zac,zab,q_7,h_8,h_12],NoBox.restrict (by intro k hk hb;simp at hk hb;simp [hk,hb,q_7,h_8,h_12,hn_6 k (by simp [hk,hb])])⟩
  ·try simp at h_8
   cases hp
   try simp [q_7,h_8]
   refine zag ?_
   rw [X_4_]
   exact ⟨_,rfl,by simp [zac,zab,q_7,h_8],NoBox.restrict (by intro k hk hb;simp at hk hb;simp [hk,hb,q_7,h_8,hn_6 k (by simp [hk,hb])])⟩
 ·intro out hX
  rw [X_4_] at hX
  obtain ⟨σ_17,rfl,q_19,hn_18⟩:=hX
  cases hp
  simp [Goal,FnEnd,q_19]
theorem pc32:PC Try.prog 32 C32:=pc_of (g:=g32) (zah _ g32_s.2.1 ⟨pc33,trivial⟩) (ent Try.func32) fun x y h=>w32 h

def C34:List AV→Option AV:=specP (X:=TStructure × Int × Int × Unit) fun x=>zcn x.1 x.2.1 x.2.2.1
theorem C34_eq {s b_ t} {y} (h:zcn s b_ t=some y):C34 [av .shr s,av .shr b_,av .shr t]=some (Res.res y):=zai (x:=(s,b_,t,())) h
def g34:Cfg:={ P:=Try.prog,take:=[],keep:=[((34,4),{ hd:=[1,2,6,7,8,9],bx:=[],ex:=[2,6,7],rt:=[6] })],gho:=[((34,atEnd),[.frz (.at 6 0),.frz (.at 6 1)]),((34,2000001),[.thaw (.at 7 0) 1112 4,.thaw (.at 7 1) 1113 1])],ctx:=[(31,C31),(60,C60)] }
@[simp] theorem g34_s:type_of% (cfg_s (g:=g34) rfl):=cfg_s rfl
theorem w34 {s b_ t} {y} (hp:zcn s b_ t=some y):∃ m,callo g34 0 34 [av .shr s,av .shr b_,av .shr t] mem0=some (Res.res y,m):=by
 refine st0 [.cell 6 27] Try.func34 ?_
 unfold zcn at hp
 obtain ⟨y_1,h_2,hp⟩:=zaa hp
 have c_3:=C31_eq h_2
 simp at c_3
 simp [Try.f34,c_3]
 try simp
 try simp
 obtain ⟨r_21,h_22,hp⟩:=zaa hp
 obtain ⟨I_6,I_6_⟩:=exV fun (s_4:Int × (List Int)) (σ:St)=>(σ.env 1=uI b_∧σ.env 2=uI t∧σ.env 6=uP (1,6)∧σ.env 7=uP (1,7)∧σ.env 8=uI (s.nodes.length:Int)∧σ.env 9=uI s_4.1∧σ.mem (1,3)=some [cL .shr s.nodes,cL .shr s.next]∧σ.mem (1,6)=some [.l .own 0 [],.l .own 0 []]∧σ.mem (1,7)=some [.bs (1,1112) y_1.nodes.length 4,.bs (1,1113) s_4.2.length 1]∧σ.mem (1,1112)=some (rowC y_1.nodes)∧σ.mem (1,1113)=some (rowC s_4.2))∧NoBox [(1,3),(1,6),(1,7),(1,1112),(1,1113)] σ.mem
 obtain ⟨X_7,X_7_⟩:=exV fun (r_21:(List Int)) (out:Out)=>∃ σ:St,out=.exit 0 σ∧(σ.env 2=uI t∧σ.env 6=uP (1,6)∧σ.env 7=uP (1,7)∧σ.mem (1,3)=some [cL .shr s.nodes,cL .shr s.next]∧σ.mem (1,6)=some [.l .own 0 [],.l .own 0 []]∧σ.mem (1,7)=some [.bs (1,1112) y_1.nodes.length 4,.bs (1,1113) r_21.length 1]∧σ.mem (1,1112)=some (rowC y_1.nodes)∧σ.mem (1,1113)=some (rowC r_21))∧NoBox [(1,3),(1,6),(1,7),(1,1112),(1,1113)] σ.mem
 refine loopP ({ hd:=[1,2,6,7,8,9],bx:=[],ex:=[2,6,7],rt:=[6] }) I_6 X_7 h_22 (by exact rfl) ?_ ?_ ?_
 ·rw [I_6_]
  exact ⟨by simp [zac,zab],NoBox.restrict (by intro k hk hb;simp at hk hb;simp [hk,hb])⟩
 ·intro s_4 σ_8 a_5 hI hp
  rw [I_6_] at hI
  obtain ⟨q_10,hn_9⟩:=hI
  try simp [q_10]
  rcases zad hp with ⟨h_11,hp⟩|⟨h_11,hp⟩
  ·try simp at h_11
   obtain ⟨y_12,h_13,hp⟩:=zaa hp
   have c_14:=C60_eq h_13
   simp at c_14
   obtain ⟨e_15,h_16,hp⟩:=zaa hp
   have b_17:=at_lo h_16
   have b_18:=at_hi h_16
   try simp at b_17 b_18
   have c_19:=zcy h_16 0 y_12 [(cI y_12)] (by simp) rfl
   try simp at c_19
   have l_20:=zeh h_16 0 (m:=1) (by decide)
   try simp at l_20
   cases hp
   try simp [q_10,h_11,c_14,b_17,b_18,c_19,l_20]
   refine zae ?_
   rw [I_6_]
   exact ⟨by simp [zac,zab,q_10,h_11,c_14,b_17,b_18,c_19,l_20],NoBox.restrict (by intro k hk hb;simp at hk hb;simp [hk,hb,q_10,h_11,c_14,b_17,b_18,c_19,l_20,hn_9 k (by simp [hk,hb])])⟩
  ·try simp at h_11
   cases hp
   try simp [q_10,h_11]
   refine zag ?_
   rw [X_7_]
   exact ⟨_,rfl,by simp [zac,zab,q_10,h_11],NoBox.restrict (by intro k hk hb;simp at hk hb;simp [hk,hb,q_10,h_11,hn_9 k (by simp [hk,hb])])⟩
 ·intro out hX
  rw [X_7_] at hX
  obtain ⟨σ_23,rfl,q_25,hn_24⟩:=hX
  try simp [q_25]
  rcases zad hp with ⟨h_26,hp⟩|⟨h_26,hp⟩
  ·try simp at h_26
   obtain ⟨e_27,h_28,hp⟩:=zaa hp
   have b_29:=at_lo h_28
   have b_30:=at_hi h_28
   try simp at b_29 b_30
   have c_31:=zcy h_28 3 (⟨e_27.vars,e_27.reach,e_27.shared,0⟩:TNode) [(cI 0)] (by simp) rfl
   try simp at c_31
   have l_32:=zeh h_28 3 (m:=1) (by decide)
   try simp at l_32
   cases hp
   simp [Goal,FnEnd,retR,rsrc,RSrc.val,nodupR,nodup,tupPart,q_25,h_26,b_29,b_30,c_31,l_32]
  ·try simp at h_26
   cases hp
   simp [Goal,FnEnd,retR,rsrc,RSrc.val,nodupR,nodup,tupPart,q_25,h_26]
theorem pc34:PC Try.prog 34 C34:=pc_of (g:=g34) (zah _ g34_s.2.1 ⟨pc31,pc60,trivial⟩) (ent Try.func34) fun x y h=>w34 h

def C61:List AV→Option AV:=specP (X:=TStructure × Int × Unit) fun x=>zdz x.1 x.2.1
theorem C61_eq {s t} {y} (h:zdz s t=some y):C61 [av .shr s,av .shr t]=some (Res.res y):=zai (x:=(s,t,())) h
def g61:Cfg:={ P:=Try.prog,take:=[(61,22),(61,32),(61,37),(61,47),(61,62),(61,76)],keep:=[((61,5),{ hd:=[1,2,4,5,6,7,8],bx:=[],ex:=[1,2,4,5,6,7],rt:=[4] }),((61,12),{ hd:=[2,4,5,6,7,9],bx:=[],ex:=[4,6],rt:=[4] }),((61,15),{ hd:=[2,4,5,6,7,9,10],bx:=[],ex:=[2,4,5,6,7,9],rt:=[4] })],gho:=[],ctx:=[(33,C33),(59,C59)] }
@[simp] theorem g61_s:type_of% (cfg_s (g:=g61) rfl):=cfg_s rfl
theorem w61 {s t} {y} (hp:zdz s t=some y):∃ m,callo g61 0 61 [av .shr s,av .shr t] mem0=some (Res.res y,m):=by
 refine st0 [.cell 4 27] Try.func61 ?_
 unfold zdz at hp
 simp [Try.f61]
 obtain ⟨r_21,h_22,hp⟩:=zaa hp
 obtain ⟨I_3,I_3_⟩:=exV fun (s_1:(List Int) × Int × (List TNode)) (σ:St)=>(σ.env 1=uI t∧σ.env 2=uP (1,2)∧σ.env 4=uP (1,4)∧σ.env 5=uI (s.nodes.length:Int)∧σ.env 6=uP (1,6)∧σ.env 7=uL .own s_1.1∧σ.env 8=uI s_1.2.1∧σ.mem (1,2)=some [cL .shr s.nodes,cL .shr s.next]∧σ.mem (1,4)=some [.l .own 0 [],.l .own 0 []]∧σ.mem (1,6)=some [cL .own s_1.2.2,.l .own 0 []])∧NoBox [(1,2),(1,4),(1,6)] σ.mem
 obtain ⟨X_4,X_4_⟩:=exV fun (r_21:(List Int) × (List TNode)) (out:Out)=>∃ σ:St,out=.exit 0 σ∧(σ.env 1=uI t∧σ.env 2=uP (1,2)∧σ.env 4=uP (1,4)∧σ.env 5=uI (s.nodes.length:Int)∧σ.env 6=uP (1,6)∧σ.env 7=uL .own r_21.1∧σ.mem (1,2)=some [cL .shr s.nodes,cL .shr s.next]∧σ.mem (1,4)=some [.l .own 0 [],.l .own 0 []]∧σ.mem (1,6)=some [cL .own r_21.2,.l .own 0 []])∧NoBox [(1,2),(1,4),(1,6)] σ.mem
 refine loopP ({ hd:=[1,2,4,5,6,7,8],bx:=[],ex:=[1,2,4,5,6,7],rt:=[4] }) I_3 X_4 h_22 (by exact rfl) ?_ ?_ ?_
 ·rw [I_3_]
  exact ⟨by simp [zac,zab],NoBox.restrict (by intro k hk hb;simp at hk hb;simp [hk,hb])⟩
 ·intro s_1 σ_5 a_2 hI hp
  rw [I_3_] at hI
  obtain ⟨q_7,hn_6⟩:=hI
  try simp [q_7]
  rcases zad hp with ⟨h_8,hp⟩|⟨h_8,hp⟩
  ·try simp at h_8
   obtain ⟨e_9,h_10,hp⟩:=zaa hp
   have b_11:=at_lo h_10
   have b_12:=at_hi h_10
   try simp at b_11 b_12
   have c_13:=seg_at' h_10 0 4 (by decide) (ds:=[.sl e_9.vars.length (encL e_9.vars),.sl e_9.reach.length (encL e_9.reach),.sc (.int .i64 e_9.shared),.sc (.int .i64 e_9.many)]) rfl
   try simp at c_13
   obtain ⟨y_14,h_15,hp⟩:=zaa hp
   have c_16:=C59_eq h_15
   simp at c_16
   obtain ⟨_,h_17,hp⟩:=zaa hp
   have b_18:=zau h_17
   try simp at b_18
   obtain ⟨_,h_19,hp⟩:=zaa hp
   have b_20:=zau h_19
   try simp at b_20
   cases hp
   try simp [q_7,h_8,b_11,b_12,c_13,c_16,b_18,b_20]
   refine zae ?_
   rw [I_3_]
   exact ⟨by simp [zac,zab,q_7,h_8,b_11,b_12,c_13,c_16,b_18,b_20],NoBox.restrict (by intro k hk hb;simp at hk hb;simp [hk,hb,q_7,h_8,b_11,b_12,c_13,c_16,b_18,b_20,hn_6 k (by simp [hk,hb])])⟩
  ·try simp at h_8
   cases hp
   try simp [q_7,h_8]
   refine zag ?_
   rw [X_4_]
   exact ⟨_,rfl,by simp [zac,zab,q_7,h_8],NoBox.restrict (by intro k hk hb;simp at hk hb;simp [hk,hb,q_7,h_8,hn_6 k (by simp [hk,hb])])⟩
 ·intro out hX
  rw [X_4_] at hX
  obtain ⟨σ_23,rfl,q_25,hn_24⟩:=hX
  obtain ⟨e_26,h_27,hp⟩:=zaa hp
  have b_28:=at_lo h_27
  have b_29:=at_hi h_27
  try simp at b_28 b_29
  have c_30:=seg_at' h_27 0 4 (by decide) (ds:=[.sl e_26.vars.length (encL e_26.vars),.sl e_26.reach.length (encL e_26.reach),.sc (.int .i64 e_26.shared),.sc (.int .i64 e_26.many)]) rfl
  try simp at c_30
  obtain ⟨y_31,h_32,hp⟩:=zaa hp
  have c_33:=C59_eq h_32
  simp at c_33
  obtain ⟨_,h_34,hp⟩:=zaa hp
  have b_35:=zau h_34
  try simp at b_35
  obtain ⟨_,h_36,hp⟩:=zaa hp
  have b_37:=zau h_36
  try simp at b_37
  try simp [q_25,b_28,b_29,c_30,c_33,b_35,b_37]
  obtain ⟨r_74,h_75,hp⟩:=zaa hp
  obtain ⟨I_40,I_40_⟩:=exV fun (s_38:Int × (List Int)) (σ:St)=>(σ.env 2=uP (1,2)∧σ.env 4=uP (1,4)∧σ.env 5=uI (s.nodes.length:Int)∧σ.env 6=uP (1,6)∧σ.env 7=uL .own (r_21.1 ++ [t])∧σ.env 9=uI s_38.1∧σ.mem (1,2)=some [cL .shr s.nodes,cL .shr s.next]∧σ.mem (1,4)=some [.l .own 0 [],.l .own 0 []]∧σ.mem (1,6)=some [cL .own (r_21.2 ++ [y_31]),cL .own s_38.2])∧NoBox [(1,2),(1,4),(1,6)] σ.mem
  obtain ⟨X_41,X_41_⟩:=exV fun (r_74:(List Int)) (out:Out)=>∃ σ:St,out=.exit 2 σ∧(σ.env 4=uP (1,4)∧σ.env 6=uP (1,6)∧σ.mem (1,2)=some [cL .shr s.nodes,cL .shr s.next]∧σ.mem (1,4)=some [.l .own 0 [],.l .own 0 []]∧σ.mem (1,6)=some [cL .own (r_21.2 ++ [y_31]),cL .own r_74])∧NoBox [(1,2),(1,4),(1,6)] σ.mem
  refine loopP ({ hd:=[2,4,5,6,7,9],bx:=[],ex:=[4,6],rt:=[4] }) I_40 X_41 h_75 (by exact rfl) ?_ ?_ ?_
  ·rw [I_40_]
   exact ⟨by simp [zac,zab,q_25],NoBox.restrict (by intro k hk hb;simp at hk hb;simp [hk,hb,q_25,hn_24 k (by simp [hk,hb])])⟩
  ·intro s_38 σ_42 a_39 hI hp
   rw [I_40_] at hI
   obtain ⟨q_44,hn_43⟩:=hI
   try simp [q_44]
   rcases zad hp with ⟨h_45,hp⟩|⟨h_45,hp⟩
   ·try simp at h_45
    try simp [q_44,h_45]
    obtain ⟨r_69,h_70,hp⟩:=zaa hp
    obtain ⟨I_48,I_48_⟩:=exV fun (s_46:Int × (List Int)) (σ:St)=>(σ.env 2=uP (1,2)∧σ.env 4=uP (1,4)∧σ.env 5=uI (s.nodes.length:Int)∧σ.env 6=uP (1,6)∧σ.env 7=uL .own (r_21.1 ++ [t])∧σ.env 9=uI s_38.1∧σ.env 10=uI s_46.1∧σ.mem (1,2)=some [cL .shr s.nodes,cL .shr s.next]∧σ.mem (1,4)=some [.l .own 0 [],.l .own 0 []]∧σ.mem (1,6)=some [cL .own (r_21.2 ++ [y_31]),cL .own s_46.2])∧NoBox [(1,2),(1,4),(1,6)] σ.mem
    obtain ⟨X_49,X_49_⟩:=exV fun (r_69:(List Int)) (out:Out)=>∃ σ:St,out=.exit 4 σ∧(σ.env 2=uP (1,2)∧σ.env 4=uP (1,4)∧σ.env 5=uI (s.nodes.length:Int)∧σ.env 6=uP (1,6)∧σ.env 7=uL .own (r_21.1 ++ [t])∧σ.env 9=uI s_38.1∧σ.mem (1,2)=some [cL .shr s.nodes,cL .shr s.next]∧σ.mem (1,4)=some [.l .own 0 [],.l .own 0 []]∧σ.mem (1,6)=some [cL .own (r_21.2 ++ [y_31]),cL .own r_69])∧NoBox [(1,2),(1,4),(1,6)] σ.mem
    refine loopP ({ hd:=[2,4,5,6,7,9,10],bx:=[],ex:=[2,4,5,6,7,9],rt:=[4] }) I_48 X_49 h_70 (by exact rfl) ?_ ?_ ?_
    ·rw [I_48_]
     exact ⟨by simp [zac,zab,q_44,h_45],NoBox.restrict (by intro k hk hb;simp at hk hb;simp [hk,hb,q_44,h_45,hn_43 k (by simp [hk,hb])])⟩
    ·intro s_46 σ_50 a_47 hI hp
     rw [I_48_] at hI
     obtain ⟨q_52,hn_51⟩:=hI
     try simp [h_45,q_52]
     rcases zad hp with ⟨h_53,hp⟩|⟨h_53,hp⟩
     ·try simp at h_53
      obtain ⟨e_54,h_55,hp⟩:=zaa hp
      have b_56:=at_lo h_55
      have b_57:=at_hi h_55
      try simp at b_56 b_57
      have c_58:=seg_at' h_55 0 1 (by decide) (ds:=[.sc (.int .i64 e_54)]) rfl
      try simp at c_58
      obtain ⟨e_59,h_60,hp⟩:=zaa hp
      have b_61:=at_lo h_60
      have b_62:=at_hi h_60
      try simp at b_61 b_62
      have c_63:=seg_at' h_60 0 1 (by decide) (ds:=[.sc (.int .i64 e_59)]) rfl
      try simp at c_63
      obtain ⟨y_64,h_65,hp⟩:=zaa hp
      have c_66:=zjl h_65
      simp at c_66
      obtain ⟨_,h_67,hp⟩:=zaa hp
      have b_68:=zau h_67
      try simp at b_68
      cases hp
      try simp [h_45,q_52,h_53,b_56,b_57,c_58,b_61,b_62,c_63,c_66,b_68]
      refine zae ?_
      rw [I_48_]
      exact ⟨by simp [zac,zab,h_45,q_52,h_53,b_56,b_57,c_58,b_61,b_62,c_63,c_66,b_68],NoBox.restrict (by intro k hk hb;simp at hk hb;simp [hk,hb,h_45,q_52,h_53,b_56,b_57,c_58,b_61,b_62,c_63,c_66,b_68,hn_51 k (by simp [hk,hb])])⟩
     ·try simp at h_53
      cases hp
      try simp [h_45,q_52,h_53]
      refine zag ?_
      rw [X_49_]
      exact ⟨_,rfl,by simp [zac,zab,h_45,q_52,h_53],NoBox.restrict (by intro k hk hb;simp at hk hb;simp [hk,hb,h_45,q_52,h_53,hn_51 k (by simp [hk,hb])])⟩
    ·intro out hX
     rw [X_49_] at hX
     obtain ⟨σ_71,rfl,q_73,hn_72⟩:=hX
     cases hp
     try simp [h_45,q_73]
     refine zae ?_
     rw [I_40_]
     exact ⟨by simp [zac,zab,h_45,q_73],NoBox.restrict (by intro k hk hb;simp at hk hb;simp [hk,hb,h_45,q_73,hn_72 k (by simp [hk,hb])])⟩
   ·try simp at h_45
    cases hp
    try simp [q_44,h_45]
    refine zag ?_
    rw [X_41_]
    exact ⟨_,rfl,by simp [zac,zab,q_44,h_45],NoBox.restrict (by intro k hk hb;simp at hk hb;simp [hk,hb,q_44,h_45,hn_43 k (by simp [hk,hb])])⟩
  ·intro out hX
   rw [X_41_] at hX
   obtain ⟨σ_76,rfl,q_78,hn_77⟩:=hX
   cases hp
   simp [Goal,FnEnd,retR,rsrc,RSrc.val,nodupR,nodup,tupPart,q_78]
theorem pc61:PC Try.prog 61 C61:=pc_of (g:=g61) (zah _ g61_s.2.1 ⟨pc33,pc59,trivial⟩) (ent Try.func61) fun x y h=>w61 h

def C35:List AV→Option AV:=specP (X:=TStructure × Int × (List Int) × Unit) fun x=>zea x.1 x.2.1 x.2.2.1
theorem C35_eq {s b_ targets} {y} (h:zea s b_ targets=some y):C35 [av .shr s,av .shr b_,av .shr targets]=some (Res.res y):=zai (x:=(s,b_,targets,())) h
def g35:Cfg:={ P:=Try.prog,take:=[(35,25),(35,54),(35,55),(35,58)],keep:=[((35,3),{ hd:=[1,2,3,7,8],bx:=[10],ex:=[7],rt:=[6] })],gho:=[],ctx:=[(31,C31),(34,C34),(61,C61)] }
@[simp] theorem g35_s:type_of% (cfg_s (g:=g35) rfl):=cfg_s rfl
theorem w35 {s b_ targets} {y} (hp:zea s b_ targets=some y):∃ m,callo g35 0 35 [av .shr s,av .shr b_,av .shr targets] mem0=some (Res.res y,m):=by
 refine st0 [.tmp 6] Try.func35 ?_
 unfold zea at hp
 obtain ⟨y_1,h_2,hp⟩:=zaa hp
 have c_3:=C34_eq h_2
 simp at c_3
 simp [Try.f35,c_3]
 obtain ⟨r_41,h_42,hp⟩:=zaa hp
 obtain ⟨I_6,I_6_⟩:=exV fun (s_4:(List TStructure) × Int) (σ:St)=>(σ.env 1=uI b_∧σ.env 2=uL .shr targets∧σ.env 3=uP (1,3)∧σ.env 7=uL .own s_4.1∧σ.env 8=uI s_4.2∧σ.mem (1,3)=some [cL .shr s.nodes,cL .shr s.next])∧NoBox [(1,3)] σ.mem
 obtain ⟨X_7,X_7_⟩:=exV fun (r_41:((List TStructure)) ⊕ ((List TStructure))) (out:Out)=>Sum.elim (fun r_41=>∃ σ:St,out=.ret σ∧(σ.env 6=uL .own r_41∧σ.mem (1,3)=some [cL .shr s.nodes,cL .shr s.next])∧NoBox [(1,3)] σ.mem) (fun r_41=>∃ σ:St,out=.exit 0 σ∧(σ.env 7=uL .own r_41∧σ.mem (1,3)=some [cL .shr s.nodes,cL .shr s.next])∧NoBox [(1,3)] σ.mem) r_41
 refine loopP ({ hd:=[1,2,3,7,8],bx:=[10],ex:=[7],rt:=[6] }) I_6 X_7 h_42 (by exact rfl) ?_ ?_ ?_
 ·rw [I_6_]
  exact ⟨by simp [zac,zab],NoBox.restrict (by intro k hk hb;simp at hk hb;simp [hk,hb])⟩
 ·intro s_4 σ_8 a_5 hI hp
  rw [I_6_] at hI
  obtain ⟨q_10,hn_9⟩:=hI
  try simp [q_10]
  rcases zad hp with ⟨h_11,hp⟩|⟨h_11,hp⟩
  ·try simp at h_11
   obtain ⟨e_12,h_13,hp⟩:=zaa hp
   have b_14:=at_lo h_13
   have b_15:=at_hi h_13
   try simp at b_14 b_15
   have c_16:=seg_at' h_13 0 1 (by decide) (ds:=[.sc (.int .i64 e_12)]) rfl
   try simp at c_16
   obtain ⟨y_17,h_18,hp⟩:=zaa hp
   have c_19:=C34_eq h_18
   simp at c_19
   obtain ⟨_,h_20,hp⟩:=zaa hp
   have b_21:=zau h_20
   try simp at b_21
   obtain ⟨e_22,h_23,hp⟩:=zaa hp
   have b_24:=at_lo h_23
   have b_25:=at_hi h_23
   try simp at b_24 b_25
   have c_26:=seg_at' h_23 3 1 (by decide) (ds:=[.sc (.int .i64 e_22.many)]) rfl
   try simp at c_26
   try simp [q_10,h_11,b_14,b_15,c_16,c_19,b_21,b_24,b_25,c_26]
   rcases zad hp with ⟨h_27,hp⟩|⟨h_27,hp⟩
   ·try simp at h_27
    try simp [q_10,h_11,h_27]
    rcases zad hp with ⟨h_28,hp⟩|⟨h_28,hp⟩
    ·try simp at h_28
     obtain ⟨y_29,h_30,hp⟩:=zaa hp
     have c_31:=C31_eq h_30
     simp at c_31
     cases hp
     try simp [q_10,h_11,h_27,h_28,c_31]
     refine zaq ?_
     rw [X_7_]
     exact ⟨_,rfl,by simp [zac,zab,q_10,h_11,h_27,h_28,c_31],NoBox.restrict (by intro k hk hb;simp at hk hb;simp [hk,hb,q_10,h_11,h_27,h_28,c_31,hn_9 k (by simp [hk,hb])])⟩
    ·try simp at h_28
     obtain ⟨y_32,h_33,hp⟩:=zaa hp
     have c_34:=C61_eq h_33
     simp at c_34
     obtain ⟨y_35,h_36,hp⟩:=zaa hp
     have c_37:=C34_eq h_36
     simp at c_37
     have n_38:=hn_9 (1,10) (by simp)
     obtain ⟨_,h_39,hp⟩:=zaa hp
     have b_40:=zau h_39
     try simp at b_40
     cases hp
     try simp [q_10,h_11,h_27,h_28,c_34,c_37,n_38,b_40]
     refine zae ?_
     rw [I_6_]
     exact ⟨by simp [zac,zab,q_10,h_11,h_27,h_28,c_34,c_37,n_38,b_40],NoBox.restrict (by intro k hk hb;simp at hk hb;simp [hk,hb,q_10,h_11,h_27,h_28,c_34,c_37,n_38,b_40,hn_9 k (by simp [hk,hb])])⟩
   ·try simp at h_27
    cases hp
    try simp [q_10,h_11,h_27]
    refine zae ?_
    rw [I_6_]
    exact ⟨by simp [zac,zab,q_10,h_11,h_27],NoBox.restrict (by intro k hk hb;simp at hk hb;simp [hk,hb,q_10,h_11,h_27,hn_9 k (by simp [hk,hb])])⟩
  ·try simp at h_11
   cases hp
   try simp [q_10,h_11]
   refine zag ?_
   rw [X_7_]
   exact ⟨_,rfl,by simp [zac,zab,q_10,h_11],NoBox.restrict (by intro k hk hb;simp at hk hb;simp [hk,hb,q_10,h_11,hn_9 k (by simp [hk,hb])])⟩
 ·intro out hX
  rw [X_7_] at hX
  rcases r_41 with r_41 | r_41
  ·simp only [Sum.elim_inl,Sum.elim_inr] at hX hp
   obtain ⟨σ_43,rfl,q_45,hn_44⟩:=hX
   cases hp
   simp [Goal,FnEnd,q_45]
  ·simp only [Sum.elim_inl,Sum.elim_inr] at hX hp
   obtain ⟨σ_46,rfl,q_48,hn_47⟩:=hX
   cases hp
   simp [Goal,FnEnd,q_48]
theorem pc35:PC Try.prog 35 C35:=pc_of (g:=g35) (zah _ g35_s.2.1 ⟨pc31,pc34,pc61,trivial⟩) (ent Try.func35) fun x y h=>w35 h

def C7:List AV→Option AV:=specP (X:=TStructure × Int × Unit) fun x=>zdi x.1 x.2.1
theorem C7_eq {s k_} {y} (h:zdi s k_=some y):C7 [av .shr s,av .shr k_]=some (Res.res y):=zai (x:=(s,k_,())) h
def g7:Cfg:={ P:=Try.prog,take:=[],keep:=[((7,6),{ hd:=[2,5,6,7],bx:=[],ex:=[2,5,6],rt:=[4] })],gho:=[],ctx:=[(12,C12),(29,C29),(30,C30),(31,C31),(32,C32),(33,C33),(34,C34),(35,C35)] }
@[simp] theorem g7_s:type_of% (cfg_s (g:=g7) rfl):=cfg_s rfl
theorem w7 {s k_} {y} (hp:zdi s k_=some y):∃ m,callo g7 0 7 [av .shr s,av .shr k_] mem0=some (Res.res y,m):=by
 refine st0 [.tmp 4] Try.func7 ?_
 unfold zdi at hp
 obtain ⟨y_1,h_2,hp⟩:=zaa hp
 have c_3:=C29_eq h_2
 simp at c_3
 simp [Try.f7,c_3]
 rcases zad hp with ⟨h_4,hp⟩|⟨h_4,hp⟩
 ·try simp at h_4
  obtain ⟨y_5,h_6,hp⟩:=zaa hp
  have c_7:=C31_eq h_6
  simp at c_7
  cases hp
  simp [Goal,FnEnd,h_4,c_7]
 ·try simp at h_4
  obtain ⟨y_8,h_9,hp⟩:=zaa hp
  have c_10:=C30_eq h_9
  simp at c_10
  obtain ⟨y_11,h_12,hp⟩:=zaa hp
  have c_13:=C12_eq h_12
  simp at c_13
  try simp [h_4,c_10,c_13]
  rcases zad hp with ⟨h_14,hp⟩|⟨h_14,hp⟩
  ·try simp at h_14
   obtain ⟨y_15,h_16,hp⟩:=zaa hp
   have c_17:=C32_eq h_16
   simp at c_17
   try simp [h_4,h_14,c_17]
   obtain ⟨r_43,h_44,hp⟩:=zaa hp
   obtain ⟨I_20,I_20_⟩:=exV fun (s_18:Int) (σ:St)=>(σ.env 2=uP (1,2)∧σ.env 5=uI y_1∧σ.env 6=uL .own y_15∧σ.env 7=uI s_18∧σ.mem (1,2)=some [cL .shr s.nodes,cL .shr s.next])∧NoBox [(1,2)] σ.mem
   obtain ⟨X_21,X_21_⟩:=exV fun (r_43:((List TStructure)) ⊕ (Unit)) (out:Out)=>Sum.elim (fun r_43=>∃ σ:St,out=.ret σ∧(σ.env 4=uL .own r_43∧σ.mem (1,2)=some [cL .shr s.nodes,cL .shr s.next])∧NoBox [(1,2)] σ.mem) (fun r_43=>∃ σ:St,out=.exit 0 σ∧(σ.env 2=uP (1,2)∧σ.env 5=uI y_1∧σ.env 6=uL .own y_15∧σ.mem (1,2)=some [cL .shr s.nodes,cL .shr s.next])∧NoBox [(1,2)] σ.mem) r_43
   refine loopP ({ hd:=[2,5,6,7],bx:=[],ex:=[2,5,6],rt:=[4] }) I_20 X_21 h_44 (by exact rfl) ?_ ?_ ?_
   ·rw [I_20_]
    exact ⟨by simp [zac,zab,h_4,h_14],NoBox.restrict (by intro k hk hb;simp at hk hb;simp [hk,hb,h_4,h_14])⟩
   ·intro s_18 σ_22 a_19 hI hp
    rw [I_20_] at hI
    obtain ⟨q_24,hn_23⟩:=hI
    try simp [h_4,h_14,q_24]
    rcases zad hp with ⟨h_25,hp⟩|⟨h_25,hp⟩
    ·try simp at h_25
     obtain ⟨e_26,h_27,hp⟩:=zaa hp
     have b_28:=at_lo h_27
     have b_29:=at_hi h_27
     try simp at b_28 b_29
     have c_30:=seg_at' h_27 0 1 (by decide) (ds:=[.sc (.int .i64 e_26)]) rfl
     try simp at c_30
     obtain ⟨y_31,h_32,hp⟩:=zaa hp
     have c_33:=zjl h_32
     simp at c_33
     try simp [h_4,h_14,q_24,h_25,b_28,b_29,c_30,c_33]
     rcases zad hp with ⟨h_34,hp⟩|⟨h_34,hp⟩
     ·try simp at h_34
      obtain ⟨e_35,h_36,hp⟩:=zaa hp
      cases Option.some.inj (h_27.symm.trans h_36)
      have b_37:=at_lo h_27
      have b_38:=at_hi h_27
      try simp at b_37 b_38
      have c_39:=seg_at' h_27 0 1 (by decide) (ds:=[.sc (.int .i64 e_26)]) rfl
      try simp at c_39
      obtain ⟨y_40,h_41,hp⟩:=zaa hp
      have c_42:=C34_eq h_41
      simp at c_42
      cases hp
      try simp [h_4,h_14,q_24,h_25,h_34,b_37,b_38,c_39,c_42]
      refine zaq ?_
      rw [X_21_]
      exact ⟨_,rfl,by simp [zac,zab,h_4,h_14,q_24,h_25,h_34,b_37,b_38,c_39,c_42],NoBox.restrict (by intro k hk hb;simp at hk hb;simp [hk,hb,h_4,h_14,q_24,h_25,h_34,b_37,b_38,c_39,c_42,hn_23 k (by simp [hk,hb])])⟩
     ·try simp at h_34
      cases hp
      try simp [h_4,h_14,q_24,h_25,h_34]
      refine zae ?_
      rw [I_20_]
      exact ⟨by simp [zac,zab,h_4,h_14,q_24,h_25,h_34],NoBox.restrict (by intro k hk hb;simp at hk hb;simp [hk,hb,h_4,h_14,q_24,h_25,h_34,hn_23 k (by simp [hk,hb])])⟩
    ·try simp at h_25
     cases hp
     try simp [h_4,h_14,q_24,h_25]
     refine zag ?_
     rw [X_21_]
     exact ⟨_,rfl,by simp [zac,zab,h_4,h_14,q_24,h_25],NoBox.restrict (by intro k hk hb;simp at hk hb;simp [hk,hb,h_4,h_14,q_24,h_25,hn_23 k (by simp [hk,hb])])⟩
   ·intro out hX
    rw [X_21_] at hX
    rcases r_43 with r_43 | r_43
    ·simp only [Sum.elim_inl,Sum.elim_inr] at hX hp
     obtain ⟨σ_45,rfl,q_47,hn_46⟩:=hX
     cases hp
     simp [Goal,FnEnd,h_4,h_14,q_47]
    ·simp only [Sum.elim_inl,Sum.elim_inr] at hX hp
     obtain ⟨σ_48,rfl,q_50,hn_49⟩:=hX
     obtain ⟨y_51,h_52,hp⟩:=zaa hp
     have c_53:=C35_eq h_52
     simp at c_53
     cases hp
     simp [Goal,FnEnd,h_4,h_14,q_50,c_53]
  ·try simp at h_14
   obtain ⟨y_54,h_55,hp⟩:=zaa hp
   have c_56:=C31_eq h_55
   simp at c_56
   cases hp
   simp [Goal,FnEnd,h_4,h_14,c_56]
theorem pc7:PC Try.prog 7 C7:=pc_of (g:=g7) (zah _ g7_s.2.1 ⟨pc12,pc29,pc30,pc31,pc32,pc33,pc34,pc35,trivial⟩) (ent Try.func7) fun x y h=>w7 h

def C8:List AV→Option AV:=specPS (X:=(List U8) × Unit) fun x=>zbc x.1
theorem C8_eq {code} {y} (h:zbc code=some y):C8 [av .shr code]=some ((Res.res y).toS):=zli (x:=(code,())) h
def g8:Cfg:={ P:=Try.prog,take:=[(8,6)],keep:=[],gho:=[],ctx:=[(5,C5)] }
@[simp] theorem g8_s:type_of% (cfg_s (g:=g8) rfl):=cfg_s rfl
theorem w8 {code} {y} (hp:zbc code=some y):∃ m,callo g8 0 8 [av .shr code] mem0=some ((Res.res y).toS,m):=by
 refine st0 [.cell 2 27,.tmp 3] Try.func8 ?_
 unfold zbc at hp
 obtain ⟨y_1,h_2,hp⟩:=zaa hp
 have c_3:=C5_eq h_2
 simp at c_3
 cases hp
 simp [Try.f8,Goal,FnEnd,retR,rsrc,RSrc.val,nodupR,nodup,tupPart,c_3]
theorem pc8:PC Try.prog 8 C8:=pc_ofS (g:=g8) (zah _ g8_s.2.1 ⟨pc5,trivial⟩) (ent Try.func8) fun x y h=>w8 h

def C9:List AV→Option AV:=specP (X:=TStructure × Int × Unit) fun x=>zcd x.1 x.2.1
theorem C9_eq {s k_} {y} (h:zcd s k_=some y):C9 [av .shr s,av .shr k_]=some (Res.res y):=zai (x:=(s,k_,())) h
def g9:Cfg:={ P:=Try.prog,take:=[(9,7)],keep:=[],gho:=[],ctx:=[(22,C22)] }
@[simp] theorem g9_s:type_of% (cfg_s (g:=g9) rfl):=cfg_s rfl
theorem w9 {s k_} {y} (hp:zcd s k_=some y):∃ m,callo g9 0 9 [av .shr s,av .shr k_] mem0=some (Res.res y,m):=by
 refine st0 [.tmp 4] Try.func9 ?_
 unfold zcd at hp
 obtain ⟨y_1,h_2,hp⟩:=zaa hp
 have c_3:=C22_eq h_2
 simp at c_3
 cases hp
 simp [Try.f9,Goal,FnEnd,c_3]
theorem pc9:PC Try.prog 9 C9:=pc_of (g:=g9) (zah _ g9_s.2.1 ⟨pc22,trivial⟩) (ent Try.func9) fun x y h=>w9 h

def C10:List AV→Option AV:=specP (X:=TStructure × Int × Unit) fun x=>zcb x.1 x.2.1
theorem C10_eq {s k_} {y} (h:zcb s k_=some y):C10 [av .shr s,av .shr k_]=some (Res.res y):=zai (x:=(s,k_,())) h
def g10:Cfg:={ P:=Try.prog,take:=[],keep:=[],gho:=[],ctx:=[(29,C29),(32,C32)] }
@[simp] theorem g10_s:type_of% (cfg_s (g:=g10) rfl):=cfg_s rfl
theorem w10 {s k_} {y} (hp:zcb s k_=some y):∃ m,callo g10 0 10 [av .shr s,av .shr k_] mem0=some (Res.res y,m):=by
 refine st0 [.tmp 4] Try.func10 ?_
 unfold zcb at hp
 obtain ⟨y_1,h_2,hp⟩:=zaa hp
 have c_3:=C29_eq h_2
 simp at c_3
 simp [Try.f10,c_3]
 rcases zad hp with ⟨h_4,hp⟩|⟨h_4,hp⟩
 ·try simp at h_4
  cases hp
  simp [Goal,FnEnd,h_4]
 ·try simp at h_4
  obtain ⟨y_5,h_6,hp⟩:=zaa hp
  have c_7:=C32_eq h_6
  simp at c_7
  cases hp
  simp [Goal,FnEnd,h_4,c_7]
theorem pc10:PC Try.prog 10 C10:=pc_of (g:=g10) (zah _ g10_s.2.1 ⟨pc29,pc32,trivial⟩) (ent Try.func10) fun x y h=>w10 h

def C36:List AV→Option AV:=specP (X:=(List Int) × (List Int) × Unit) fun x=>zdx x.1 x.2.1
theorem C36_eq {a_ b_} {y} (h:zdx a_ b_=some y):C36 [av .shr a_,av .shr b_]=some (Res.res y):=zai (x:=(a_,b_,())) h
def g36:Cfg:={ P:=Try.prog,take:=[],keep:=[((36,4),{ hd:=[0,1,5],bx:=[],ex:=[],rt:=[4] })],gho:=[],ctx:=[] }
@[simp] theorem g36_s:type_of% (cfg_s (g:=g36) rfl):=cfg_s rfl
theorem w36 {a_ b_} {y} (hp:zdx a_ b_=some y):∃ m,callo g36 0 36 [av .shr a_,av .shr b_] mem0=some (Res.res y,m):=by
 refine st0 [.tmp 4] Try.func36 ?_
 unfold zdx at hp
 simp [Try.f36]
 rcases zad hp with ⟨h_1,hp⟩|⟨h_1,hp⟩
 ·try simp at h_1
  cases hp
  simp [Goal,FnEnd,h_1]
 ·try simp at h_1
  try simp [h_1]
  obtain ⟨r_21,h_22,hp⟩:=zaa hp
  obtain ⟨I_4,I_4_⟩:=exV fun (s_2:Int) (σ:St)=>(σ.env 0=uL .shr a_∧σ.env 1=uL .shr b_∧σ.env 5=uI s_2)∧σ.mem=mem0
  obtain ⟨X_5,X_5_⟩:=exV fun (r_21:(Unit) ⊕ (Unit)) (out:Out)=>Sum.elim (fun r_21=>∃ σ:St,out=.ret σ∧σ.env 4=uB false∧σ.mem=mem0) (fun r_21=>∃ σ:St,out=.exit 0 σ∧σ.mem=mem0) r_21
  refine loopP ({ hd:=[0,1,5],bx:=[],ex:=[],rt:=[4] }) I_4 X_5 h_22 (by exact rfl) ?_ ?_ ?_
  ·rw [I_4_]
   exact ⟨by simp [zac,zab,h_1],by simp [zab,h_1]⟩
  ·intro s_2 σ_6 a_3 hI hp
   rw [I_4_] at hI
   obtain ⟨q_8,q_7⟩:=hI
   try simp [h_1,q_8,q_7]
   rcases zad hp with ⟨h_9,hp⟩|⟨h_9,hp⟩
   ·try simp at h_9
    obtain ⟨e_10,h_11,hp⟩:=zaa hp
    have b_12:=at_lo h_11
    have b_13:=at_hi h_11
    try simp at b_12 b_13
    have c_14:=seg_at' h_11 0 1 (by decide) (ds:=[.sc (.int .i64 e_10)]) rfl
    try simp at c_14
    obtain ⟨e_15,h_16,hp⟩:=zaa hp
    have b_17:=at_lo h_16
    have b_18:=at_hi h_16
    try simp at b_17 b_18
    have c_19:=seg_at' h_16 0 1 (by decide) (ds:=[.sc (.int .i64 e_15)]) rfl
    try simp at c_19
    try simp [h_1,q_8,q_7,h_9,b_12,b_13,c_14,b_17,b_18,c_19]
    rcases zad hp with ⟨h_20,hp⟩|⟨h_20,hp⟩
    ·try simp at h_20
     cases hp
     try simp [h_1,q_8,q_7,h_9,h_20]
     refine zaq ?_
     rw [X_5_]
     exact ⟨_,rfl,by simp [zac,zab,h_1,q_8,q_7,h_9,h_20],by simp [zab,h_1,q_8,q_7,h_9,h_20]⟩
    ·try simp at h_20
     cases hp
     try simp [h_1,q_8,q_7,h_9,h_20]
     refine zae ?_
     rw [I_4_]
     exact ⟨by simp [zac,zab,h_1,q_8,q_7,h_9,h_20],by simp [zab,h_1,q_8,q_7,h_9,h_20]⟩
   ·try simp at h_9
    cases hp
    try simp [h_1,q_8,q_7,h_9]
    refine zag ?_
    rw [X_5_]
    exact ⟨_,rfl,by simp [zab,h_1,q_8,q_7,h_9]⟩
  ·intro out hX
   rw [X_5_] at hX
   rcases r_21 with r_21 | r_21
   ·simp only [Sum.elim_inl,Sum.elim_inr] at hX hp
    obtain ⟨σ_23,rfl,q_25,q_24⟩:=hX
    cases hp
    simp [Goal,FnEnd,h_1,q_25,q_24]
   ·simp only [Sum.elim_inl,Sum.elim_inr] at hX hp
    obtain ⟨σ_26,rfl,q_27⟩:=hX
    cases hp
    simp [Goal,FnEnd,h_1,q_27]
theorem pc36:PC Try.prog 36 C36:=pc_of (g:=g36) (zah [] rfl trivial) (ent Try.func36) fun x y h=>w36 h

def C37:List AV→Option AV:=specP (X:=TNode × TNode × Unit) fun x=>zcr x.1 x.2.1
theorem C37_eq {a_ b_} {y} (h:zcr a_ b_=some y):C37 [av .shr a_,av .shr b_]=some (Res.res y):=zai (x:=(a_,b_,())) h
def g37:Cfg:={ P:=Try.prog,take:=[],keep:=[],gho:=[],ctx:=[(36,C36)] }
@[simp] theorem g37_s:type_of% (cfg_s (g:=g37) rfl):=cfg_s rfl
theorem w37 {a_ b_} {y} (hp:zcr a_ b_=some y):∃ m,callo g37 0 37 [av .shr a_,av .shr b_] mem0=some (Res.res y,m):=by
 refine st0 [.tmp 4] Try.func37 ?_
 unfold zcr at hp
 obtain ⟨y_1,h_2,hp⟩:=zaa hp
 have c_3:=C36_eq h_2
 simp at c_3
 simp [Try.f37,c_3]
 rcases zad hp with ⟨h_4,hp⟩|⟨h_4,hp⟩
 ·try simp at h_4
  obtain ⟨y_5,h_6,hp⟩:=zaa hp
  have c_7:=C36_eq h_6
  simp at c_7
  try simp [h_4,c_7]
  rcases zad hp with ⟨h_8,hp⟩|⟨h_8,hp⟩
  ·try simp at h_8
   try simp [h_4,h_8]
   rcases zad hp with ⟨h_9,hp⟩|⟨h_9,hp⟩
   ·try simp at h_9
    cases hp
    simp [Goal,FnEnd,h_4,h_8,h_9]
   ·try simp at h_9
    cases hp
    simp [Goal,FnEnd,h_4,h_8,h_9]
  ·try simp at h_8
   cases hp
   simp [Goal,FnEnd,h_4,h_8]
 ·try simp at h_4
  cases hp
  simp [Goal,FnEnd,h_4]
theorem pc37:PC Try.prog 37 C37:=pc_of (g:=g37) (zah _ g37_s.2.1 ⟨pc36,trivial⟩) (ent Try.func37) fun x y h=>w37 h
end Go.Proofs

