import Derived.Test.YtfcfpdcjepobpaaGreatEvA5
import GoSem.ClaimChange
import Derived.ChangeArms
import Derived.DataElems
import Derived.WideShapes
import Derived.ChangeSame
set_option linter.unusedSimpArgs false
set_option linter.unusedVariables false
set_option linter.unnecessarySimpa false
noncomputable section
namespace Go.Ev

def PO (P:Program) (f:Nat) (F:List AV→Option AV):Prop:=∀ args r,F args=some r→∀ (d:Nat) (mem:Mem),(∀ k,(mem k).isSome=true→k.1≤d)→(∀ k,(mem k).map (List.map C.killB)=mem k)→CallE P d f args mem mem r
def BC (P:Program) (f:Nat) (F:List AV→Option (List C)):Prop:=∀ args cs,F args=some cs→CallB P f args cs∧cs.all C.shr?=true
def CtxOK (g:Cfg):Prop:=(∀ f F,lookN f g.ctx=some F→PC g.P f F)∧(∀ f F,lookN f g.octx=some F→PO g.P f F)∧(∀ f F,lookN f g.bctx=some F→BC g.P f F)∧∀ f F,lookN f g.pctx=some F→PX g.P f F

def retF:Tag→Tag
 | .at .ret _=>.foreign
 | t=>t
def Gh.enter (G:Gh) (n d:Nat):Gh:={ G with own:=fun b=>(G.own b).map retF,age:=fun b=>if b < n then G.age b else d }

theorem retF_box {k:Key} {t:Tag} (h:retF t=.box k):t=.box k:=by
 cases t with
 | foreign=>cases h
 | box k'=>exact h
 | «at» o q=>cases o <;> cases h
theorem retF_cell {k:Key} {q:List Nat} {t:Tag} (h:retF t=.at (.cell k) q):t=.at (.cell k) q:=by
 cases t with
 | foreign=>cases h
 | box k'=>cases h
 | «at» o q=>cases o <;> first | exact h | cases h

theorem zjw (G:Gh) (w:World) (d:Nat) (o:Ow) (p:List Nat) (ho:o≠.ret):Hands w G w (G.enter w.heap.size d) o p o p fun _=>false where
 tag b q _ h:=⟨by
  show (G.own b).map retF=_
  rw [h]
  cases o <;> first | rfl | exact absurd rfl ho,rfl,rfl⟩
 nil b _ h:=by show (G.own b).map retF=_;rw [h];rfl
 nilh _ _ _:=rfl
 box b _ h k hk:=by
  have hk:(G.own b).map retF=some (.box k):=hk
  rw [Option.map_eq_some_iff] at hk
  obtain ⟨t,ht,hb⟩:=hk
  exact h k (by rw [ht,retF_box hb])
 use _ _ _:=Nat.le_refl _
 cell _ _ _ _ _:=rfl
 live k hk _:=⟨hk,rfl,rfl⟩

theorem MemOK.enter {d:Nat} {G:Gh} {mem:Mem} {w:World} (h:MemOK d G mem w):MemOK (d+1) (G.enter w.heap.size (d+1)) mem w∧Frm (d+1) G w (G.enter w.heap.size (d+1)) w:=by
 have own:∀ b t,(G.enter w.heap.size (d+1)).own b=some t→∃ t0,G.own b=some t0∧retF t0=t:=fun b t hb=>by
  have hb:(G.own b).map retF=some t:=hb
  rwa [Option.map_eq_some_iff] at hb
 constructor
 ·refine { cells:=fun k cs hk hn2=>?_,live:=h.live,dep:=fun k hk=>Nat.le_succ_of_le (h.dep k hk),wf:=fun b t hb=>?_,wfb:=fun b k hb=>?_,wfc:=fun b k p hb=>?_,age:=fun b=>?_,fut:=fun b hb=>?_,aged:=fun b t hb=>?_ }
  ·obtain ⟨arr,e,h1,h2,h3,h4⟩:=h.cells k cs hk hn2
   exact ⟨arr,e,h1,by show (G.own (G.β k)).map retF=_;rw [h2];rfl,h3,(zjw G w (d+1) (.cell k) [] (by simp)).rcs0 h4⟩
  ·obtain ⟨t0,h0,_⟩:=own b t hb
   exact h.wf b t0 h0
  ·obtain ⟨t0,h0,h1⟩:=own b _ hb
   exact h.wfb b k (by rw [h0,retF_box h1])
  ·obtain ⟨t0,h0,h1⟩:=own b _ hb
   exact h.wfc b k p (by rw [h0,retF_cell h1])
  ·show (if b < w.heap.size then G.age b else d+1)≤d+1
   have:=h.age b
   split <;> omega
  ·show (if b < w.heap.size then G.age b else d+1)=d+1
   rw [if_neg (by omega)]
  ·obtain ⟨t0,h0,rfl⟩:=own b _ hb
   have hlt:=h.wf b t0 h0
   have ha:=h.aged b t0 h0
   show (retF t0).dep (d+1)≤if b < w.heap.size then G.age b else d+1
   rw [if_pos hlt]
   cases t0 with
   | foreign=>exact Nat.zero_le _
   | box k=>exact ha
   | «at» o q =>
    cases o with
    | ret=>exact Nat.zero_le _
    | slot a b=>exact ha
    | cell k=>exact ha
 ·exact {
   size:=Nat.le_refl _
   kept:=Kept.refl w
   same:=fun b hb ht=>⟨rfl,by
    show (G.own b).map retF=_
    cases hg:G.own b with
    | none=>rfl
    | some t =>
     rw [hg] at ht
     cases t with
     | foreign=>rfl
     | box k=>rfl
     | «at» o q =>
      cases o with
      | ret=>exact absurd trivial ht
      | slot a b=>rfl
      | cell k=>rfl,rfl⟩
   age:=fun b hb _=>by show (if b < w.heap.size then G.age b else d+1)=_;rw [if_pos hb]
   box:=fun b hb _ hk=>(zjw G w (d+1) (.cell (0,0)) [] (by simp)).box b hb hk
   use:=fun _ _ _=>Nat.le_refl _
   cell:=fun _ _ _ _ _ _=>rfl
   live:=fun k hk _=>⟨hk,rfl,rfl⟩
   back:=fun _ _ h=>.inl h
   up:=fun b hb=>by
    show d+1≤(if b < w.heap.size then G.age b else d+1)+1
    split <;> omega }

theorem zjx {G:Gh} {w:World} {args:List AV} {vals:Array Value} {N d:Nat} (h:∀ (i:Nat) x,args[i]?=some x→∃ v,vals[i]?=some v∧RA w G (.slot d i) x v) (t:Nat) :
 RA w G (.slot d t) ((args[t]?).getD .dead) ((vals ++ Array.replicate (N - vals.size) undef).getD t undef):=by
 cases hx:args[t]? with
 | none=>exact trivial
 | some x =>
  obtain ⟨v,hv,hr⟩:=h t x hx
  rw [Array.getD_eq_getD_getElem?,Array.getElem?_append,if_pos (Array.getElem?_eq_some_iff.1 hv).1,hv]
  exact hr

theorem CallE.ok {P:Program} {d f:Nat} {args:List AV} {mem mem':Mem} {r:AV} (h:CallE P d f args mem mem' r):CallOK P d f args mem mem' r:=by
 refine ⟨h.1,fun G w vals hargs hM=>?_⟩
 obtain ⟨hM1,hF1⟩:=hM.enter
 refine (h.2 (G.enter w.heap.size (d+1)) w vals hargs.1 (fun i x hi=>?_) hM1 fun hl=>absurd (hM.dep _ hl) (Nat.not_succ_le_self d)).mono fun e w' he=>?_
 ·obtain ⟨v,hv,hr⟩:=hargs.2 i x hi
  exact ⟨v,hv,(zjw G w (d+1) (.slot (d+1) i) [] (by simp)).ra0 (hr (d+1) i)⟩
 ·obtain ⟨v,G',rfl,h1,h2,h3⟩:=he
  exact ⟨v,G',rfl,h1,h2,hF1.trans h3⟩

theorem zna {d N:Nat} {P:Program} {fn:Func} {G:Gh} {w:World} {out:Out} {R:Ending→World→Prop} {σ0:St} (hdone:out.done=some σ0)
 (h:∀ σ' G' tm w',out.done=some σ'→Sim d N G' σ' tm w'→Frm d G w G' w'→∃ v,(results fn tm).run P w'=.ok v w'∧R (.returned v) w') :
 ∀ e a w',postC d N G w out e a w'→bodyPost P fn R e a w':=by
 intro e a w' hp
 cases e with
 | normal =>
  obtain ⟨h0,σ',G',rfl,hS,hF⟩:=hp
  exact ⟨h0,h σ' G' a.tmps w' rfl hS hF⟩
 | ret =>
  obtain ⟨h0,σ',G',rfl,hS,hF⟩:=hp
  exact ⟨h0,h σ' G' a.tmps w' rfl hS hF⟩
 | exit id =>
  obtain ⟨h0,σ',G',rfl,hS,hF⟩:=hp
  cases hdone
 | goto l=>exact hp.elim
 | panic c=>exact hp.elim
 | outgrown=>exact hp.elim

theorem zmz {P:Program} {c:Code} {Q Q':Exit→Act→World→Prop} (h:∀ e a w,Q e a w→Q' e a w):∀ {n:Nat} {a:Act} {w:World},Code.rounds P c Q n a w→Code.rounds P c Q' n a w
 | 0,_,_,hr=>hr
 | n+1,a,w,hr=>by
  rw [rounds_succ] at hr ⊢
  refine wp_mono hr fun e a' w' hq=>?_
  cases e with
  | normal=>exact zmz h hq
  | _=>exact h _ _ _ hq

theorem rounds_of {g:Cfg} {d f N:Nat} {c:Code} {kk:Kp} (hk:lookK (f,rid c) g.keep=some kk) :
 ∀ n,(∀ m < n,∀ σ out,evN g m d f c σ=some out→∀ G w a,Sim d N G σ a.tmps w→a.defers=[]→c.wp g.P (postC d N G w out) a w) →
 ∀ σ out,evN g n d f (.loop c) σ=some out→∀ G w a,Sim d N G σ a.tmps w→a.defers=[]→Code.rounds g.P c (postC d N G w out) n a w
 | 0,_,σ,out,h,_,_,_,_,_=>by rw [evN] at h;cases h
 | n+1,hb,σ,out,h,G,w,a,hS,hd=>by
  rw [evN] at h
  rw [hk] at h
  simp only [Option.bind_some] at h
  rw [Option.bind_eq_some_iff] at h
  obtain ⟨o,ho,h⟩:=h
  obtain ⟨G1,hS1,hF1⟩:=hS.restrict (kk.hd,kk.bx)
  rw [rounds_succ]
  refine wp_mono (hb n (by omega) _ _ ho G1 w a hS1 hd) fun e a' w' hp=>?_
  cases e with
  | normal =>
   obtain ⟨h0,σ',G',rfl,hS',hF'⟩:=hp
   simp only [Out.loopThen] at h
   have ih:=rounds_of hk n (fun m hm=>hb m (by omega)) σ' out h G' w' a' hS' h0
   exact zmz (fun e a w h=>postC.trans (hF1.trans hF') e a w h) ih
  | exit id =>
   obtain ⟨h0,σ',G',rfl,hS',hF'⟩:=hp
   simp only [Out.loopThen,Option.some.injEq] at h
   subst h
   obtain ⟨G2,hS2,hF2⟩:=hS'.restrict (kk.ex,kk.bx)
   exact ⟨h0,_,G2,rfl,hS2,(hF1.trans hF').trans hF2⟩
  | ret =>
   obtain ⟨h0,σ',G',rfl,hS',hF'⟩:=hp
   simp only [Out.loopThen,Option.some.injEq] at h
   subst h
   obtain ⟨G2,hS2,hF2⟩:=hS'.restrict (kk.rt,kk.bx)
   exact ⟨h0,_,G2,rfl,hS2,(hF1.trans hF').trans hF2⟩
  | goto l=>exact hp.elim
  | panic c=>exact hp.elim
  | outgrown=>exact hp.elim

theorem kill_live {w:World} {G:Gh} {o:Ow} {p:List Nat} {q:Key→Bool} (hq:∀ k,G.live k→q k=false) {c:C} {v:Value} (h:RC w G o p c v):c.kill q=c:=by
 cases c with
 | ptr k off=>simp only [C.kill];rw [if_neg (by rw [hq k h.1];simp)]
 | fn f caps =>
  simp only [C.kill]
  rw [if_neg]
  intro hh
  rw [List.any_eq_true] at hh
  obtain ⟨x,hx,hx2⟩:=hh
  rw [hq _ (h.1 x hx)] at hx2
  cases hx2
 | bs k n sz=>simp only [C.kill];rw [if_neg (by rw [hq k h.1];simp)]
 | _=>rfl
theorem MemOK.tight {d:Nat} {G:Gh} {mem:Mem} {w:World} (h:MemOK d G mem w):memKill (fun k=>decide (d < k.1)) mem=mem:=by
 funext k
 unfold memKill
 by_cases hk:d < k.1
 ·rw [if_pos (by simpa using hk)]
  cases hm:mem k with
  | none=>rfl
  | some cs =>
   have:=h.dep k ((h.live k).2 (by rw [hm];rfl))
   omega
 ·rw [if_neg (by simpa using hk)]
  cases hm:mem k with
  | none=>rfl
  | some cs =>
   rw [Option.map_some]
   congr 1
   by_cases hne:cs=[]
   ·subst hne;rfl
   ·obtain ⟨arr,e,_,_,_,h3⟩:=h.cells k cs hm hne
    have:∀ c∈cs,c.kill (fun k=>decide (d < k.1))=c:=fun c hc=>by
     obtain ⟨j,hj,rfl⟩:=List.mem_iff_getElem.1 hc
     obtain ⟨x,_,hx⟩:=h3.2 j _ (List.getElem?_eq_getElem hj)
     exact kill_live (fun k hk=>by have:=h.dep k hk;simp;omega) hx
    have h2:=List.map_congr_left (f:=C.kill fun k=>decide (d < k.1)) (g:=id) (l:=cs) this
    rw [h2,List.map_id]
theorem CallOK.keep {P:Program} {d f:Nat} {args:List AV} {mem:Mem} {r:AV} (h:CallOK P d f args mem (memKill (fun k=>decide (d < k.1)) mem) r):CallOK P d f args mem mem r:=by
 obtain ⟨hE,h⟩:=h
 refine ⟨hE,fun G w vals ha hM=>?_⟩
 have:=h G w vals ha hM
 rwa [hM.tight] at this
theorem step_ok {g:Cfg} {n d f N:Nat} (hA:∀ f args mem r mem',callN g n d f args mem=some (r,mem')→CallOK g.P d f args mem mem' r) {o:Oper} (hd:o.dst.all (· < N)=true) {σ σ':St} (h:stepW (callN g n d) g d f o σ=some σ'):StepOK g.P d N o σ σ':=by
 rcases isV (op:=o.op) with ⟨x,args,argTypes,ho⟩ | hne
 ·rw [zdo ho,Option.bind_eq_some_iff] at h
  obtain ⟨⟨k,caps⟩,hkc,h⟩:=h
  rw [Option.bind_eq_some_iff] at h
  obtain ⟨⟨r,mem'⟩,hrm,h⟩:=h
  unfold callEnd at h
  split at h
  ·split at h
   ·rename_i hfn
    simp only [Option.some.injEq] at h
    subst h
    have h0:=hA _ _ _ _ _ hrm
    rw [(ro_call hfn hrm).1] at h0
    exact call_step hd ho hkc h0.keep
   ·cases h
  ·simp only [Option.some.injEq] at h
   subst h
   exact call_step hd ho hkc (hA _ _ _ _ _ hrm)
 ·rw [zke hne,Option.bind_eq_some_iff] at h
  obtain ⟨⟨v,σ1⟩,hv,h⟩:=h
  simp only [Option.some.injEq] at h
  subst h
  exact OpOK.step fun G w a hS=>opE_ok hS hd hv

theorem stepX_ok {g:Cfg} {n d f N:Nat} (hctx:CtxOK g) (hA:∀ f args mem r mem',callN g n d f args mem=some (r,mem')→CallOK g.P d f args mem mem' r∧(lookN f g.ctx=none→lookN f g.pctx=none→CallE g.P d f args mem mem' r))
 {o:Oper} (hd:o.dst.all (· < N)=true) {σ σ':St} (h:stepX (callN g n d) g d f o σ=some σ'):StepOK g.P d N o σ σ':=by
 cases hg:isGive g f o.dst with
 | false =>
  rw [zha hg] at h
  exact step_ok (fun f args mem r mem' hh=>(hA f args mem r mem' hh).1) hd h
 | true =>
  have hW:stepW (callN g n d) g d f o σ=some σ'→StepOK g.P d N o σ σ':=step_ok (fun f args mem r mem' hh=>(hA f args mem r mem' hh).1) hd
  unfold stepX at h
  split at h
  ·rename_i x args at_ ho
   rw [hg,if_pos rfl] at h
   unfold giveStep at h
   split at h
   ·rename_i k caps hk
    split at h
    ·rename_i hnd
     rw [Option.map_eq_some_iff] at h
     obtain ⟨⟨r,m⟩,hrm,rfl⟩:=h
     split at hrm
     ·rename_i F hF
      split at hrm
      rotate_left
      ·cases hrm
      rename_i hce
      rw [Option.map_eq_some_iff] at hrm
      obtain ⟨r',hr',he⟩:=hrm
      simp only [Prod.mk.injEq] at he
      obtain ⟨rfl,rfl⟩:=he
      refine znr hd ho false hk hnd fun hdep=>?_
      rw [List.isEmpty_iff.1 hce,List.append_nil]
      exact hctx.2.1 k F hF _ _ hr' d _ hdep fun k=>by
       show ((σ.mem k).map _).map _=(σ.mem k).map _
       rw [Option.map_map]
       congr 1
       funext l
       exact zno l
     ·split at hrm
      ·cases hrm
      ·rename_i hn
       unfold bxCall at hrm
       split at hrm
       ·split at hrm
        ·cases hrm
        rename_i hn2
        exact znr hd ho (g.deep.contains k) hk hnd fun hdep=>(hA k _ _ _ _ hrm).2 (by simpa using hn) (by simpa using hn2)
       ·rename_i F t hF hdst
        split at hrm
        ·cases hrm
        rename_i hcond
        simp only [Bool.or_eq_true,Bool.not_eq_true',not_or,Bool.not_eq_true,Bool.not_eq_false] at hcond
        rw [Option.map_eq_some_iff] at hrm
        obtain ⟨cs,hcs,he⟩:=hrm
        simp only [Prod.mk.injEq] at he
        obtain ⟨rfl,rfl⟩:=he
        obtain ⟨hB,hsh⟩:=hctx.2.2.1 k F hF _ _ hcs
        refine znr hd ho false hk hnd fun hdep=>?_
        refine box_call hB hsh hcond.2 (Nat.le_add_right _ _) hdep (fun k=>by
         show ((σ.mem k).map _).map _=(σ.mem k).map _
         rw [Option.map_map]
         congr 1
         funext l
         exact zno l) (by show σ.killB.mem (d,adoptK+t)=none;simpa using hcond.1)
       ·cases hrm
    ·cases h
   ·cases h
  ·exact hW h

theorem sound (g:Cfg) (hctx:CtxOK g):∀ n,
 (∀ m≤n,∀ d f args mem r mem',callN g m d f args mem=some (r,mem')→CallOK g.P d f args mem mem' r∧(lookN f g.ctx=none→lookN f g.pctx=none→CallE g.P d f args mem mem' r)) ∧
 (∀ m≤n,∀ d f N c,codeOK g f N c=true→∀ σ out,evN g m d f c σ=some out→∀ G w a,Sim d N G σ a.tmps w→a.defers=[]→c.wp g.P (postC d N G w out) a w):=by
 intro n
 induction n with
 | zero =>
  refine ⟨fun m hm d f args mem r mem' h=>?_,fun m hm d f N c _ σ out h=>?_⟩
  ·have:m=0:=by omega
   subst this
   rw [callN] at h;cases h
  ·have:m=0:=by omega
   subst this
   rw [evN] at h;cases h
 | succ n ih =>
  obtain ⟨ihA,ihC⟩:=ih
  have hA:∀ d f args mem r mem',callN g (n+1) d f args mem=some (r,mem')→CallOK g.P d f args mem mem' r∧(lookN f g.ctx=none→lookN f g.pctx=none→CallE g.P d f args mem mem' r):=by
   intro d f args mem r mem' h
   rw [callN] at h
   cases hl:lookN f g.ctx with
   | some F =>
    rw [hl] at h
    simp only at h
    rw [Option.bind_eq_some_iff] at h
    obtain ⟨la,hla,h⟩:=h
    rw [Option.bind_eq_some_iff] at h
    obtain ⟨r',hr',h⟩:=h
    split at h
    ·rename_i hc
     simp only [Option.some.injEq,Prod.mk.injEq] at h
     obtain ⟨rfl,rfl⟩:=h
     exact ⟨(hctx.1 f F hl).call hla hr' hc,fun hn=>by cases hn⟩
    ·cases h
   | none =>
    rw [hl] at h
    simp only at h
    cases hf:g.P.funcs[f]? with
    | none=>rw [hf] at h;cases h
    | some fn =>
     rw [hf] at h
     simp only at h
     cases hb:fn.body with
     | none=>rw [hb] at h;cases h
     | some c =>
      rw [hb] at h
      simp only at h
      split at h
      ·cases hp:lookN f g.pctx with
       | none=>rw [hp] at h;cases h
       | some F =>
        rw [hp] at h
        obtain ⟨K,az_,cs,rc,rfl,hsh,_,hcs,hr',rfl,rfl⟩:=zjr h
        exact ⟨(hctx.2.2.2 f F hp).call hcs hsh hr',fun _ hn=>by cases hn⟩
      rename_i hok
      simp only [Bool.or_eq_true,Bool.not_eq_true',decide_eq_true_eq,not_or,Bool.not_eq_false] at hok
      obtain ⟨hfn,hlen⟩:=hok
      rw [Option.bind_eq_some_iff] at h
      obtain ⟨out,hout,h⟩:=h
      rw [Option.bind_eq_some_iff] at h
      obtain ⟨σ',hσ',h⟩:=h
      rw [Option.bind_eq_some_iff] at h
      obtain ⟨σe,hσe,h⟩:=h
      rw [Option.bind_eq_some_iff] at h
      obtain ⟨r0,hr0,h⟩:=h
      simp only [Option.some.injEq,Prod.mk.injEq] at h
      obtain ⟨rfl,rfl⟩:=h
      unfold fnOK at hfn
      rw [hb] at hfn
      simp only [Bool.and_eq_true] at hfn
      obtain ⟨⟨hcode,hname⟩,_⟩:=hfn
      have hCE:CallE g.P d f args mem (memKill (fun k=>decide (d < k.1)) σe.mem) (r0.kill fun k=>decide (d < k.1)):=by
       refine ⟨⟨fn,hf,by rw [hb];rfl,by simpa using hname⟩,fun G w vals hsz hargs hM1 hj1=>?_⟩
       refine calls_of_wp hf hb ?_
       have hS:Sim (d+1) fn.ntmps G { env:=fun t=>(args[t]?).getD .dead,mem } (vals ++ Array.replicate (fn.ntmps - vals.size) undef) w :=
        hM1.sim (by rw [Array.size_append,Array.size_replicate,hsz];omega) (fun t=>zjx hargs t) hj1
       refine wp_mono (ihC n (Nat.le_refl _) (d+1) f fn.ntmps c hcode _ _ hout G w { tmps:=vals ++ Array.replicate (fn.ntmps - vals.size) undef,defers:=[] } hS rfl) ?_
       refine zna hσ' fun σ2 G2 tm w2 h2 hS2 hF2=>?_
       rw [hσ'] at h2
       cases h2
       obtain ⟨Ge,hSe,hFe⟩:=zks hS2 hσe
       obtain ⟨v,G3,hrun,hRA,hM3,hF3⟩:=hSe.returns (P:=g.P) hr0
       exact ⟨v,hrun,v,G3,rfl,hRA,hM3,(hF2.trans hFe).trans hF3⟩
      exact ⟨hCE.ok,fun _ _=>hCE⟩
  have hC:∀ d f N c,codeOK g f N c=true→∀ σ out,evN g (n+1) d f c σ=some out→∀ G w a,Sim d N G σ a.tmps w→a.defers=[]→c.wp g.P (postC d N G w out) a w:=by
   intro d f N c hcode σ out h G w a hS hd
   cases c with
   | skip =>
    rw [evN] at h
    simp only [Option.some.injEq] at h
    subst h
    exact wp_skip ⟨hd,σ,G,rfl,hS,Frm.refl _ _ _⟩
   | label l =>
    rw [evN] at h
    simp only [Option.some.injEq] at h
    subst h
    exact wp_label ⟨hd,σ,G,rfl,hS,Frm.refl _ _ _⟩
   | exit id =>
    rw [evN] at h
    simp only [Option.some.injEq] at h
    subst h
    exact wp_exit ⟨hd,σ,G,rfl,hS,Frm.refl _ _ _⟩
   | ret =>
    rw [evN] at h
    simp only [Option.some.injEq] at h
    subst h
    exact wp_ret ⟨hd,σ,G,rfl,hS,Frm.refl _ _ _⟩
   | region id ops draw =>
    rw [evN] at h
    simp only [Option.bind_eq_some_iff,Option.map_eq_some_iff] at h
    obtain ⟨σ0,hg0,σ',h,σ2,hg2,rfl⟩:=h
    obtain ⟨G0,hS0',hF0'⟩:=zks hS hg0
    refine wp_mono ?_ fun e a w hh=>postC.trans hF0' e a w hh
    have hS:=hS0'
    have hrun:=zkz g d f ops ops.toList n n σ0 σ' (Nat.le_succ n) h
    simp only [codeOK,Bool.and_eq_true] at hcode
    obtain ⟨hops,hdraw⟩:=hcode
    have hdst:∀ o∈ops.toList,o.dst.all (· < N)=true:=by
     intro o ho
     rw [Array.all_eq_true_iff_forall_mem] at hops
     have:=hops o (by simpa using ho)
     simp only [Bool.and_eq_true] at this
     exact this.1
    have hstep:∀ o∈ops.toList,∀ σ σ',stepX (callN g n d) g d f o σ=some σ'→StepOK g.P d N o σ σ':=fun o ho σ σ' hh=>stepX_ok hctx (fun f args mem r mem'=>ihA n (Nat.le_refl _) d f args mem r mem') (hdst o ho) hh
    cases draw with
    | false =>
     refine wp_region ?_
     rw [List.range_eq_range']
     exact zml hstep hdst ops.size 0 (by omega) G0 w a σ0 σ' hS (by simpa using hrun) fun G' a' w' hS' hF' hdf=>by obtain ⟨G2,hS2,hF2⟩:=zks hS' hg2;exact ⟨hdf.trans hd,σ2,G2,rfl,hS2,hF'.trans hF2⟩
    | true =>
     simp only [Bool.not_true,Bool.false_or,Bool.and_eq_true] at hdraw
     refine wp_region_any hdraw.1 ?_
     obtain ⟨hS0,hF0⟩:=hS.sameHeap (w':={ w with drawn:=w.drawn+1 }) rfl ⟨rfl,rfl,rfl⟩
     refine wpAny_run hstep hdst hdraw.2 ops.size (List.range ops.size) _ G0 _ a σ0 σ' (by simp) (by simp) List.pairwise_lt_range (fun i=>?_) (fun j _ i y hi _=>List.mem_range.2 (Array.getElem?_eq_some_iff.1 hi).1) hS0 ?_ fun G' a' w' hS' hF' hdf=>by obtain ⟨G2,hS2,hF2⟩:=zks hS' hg2;exact ⟨hdf.trans hd,σ2,G2,rfl,hS2,(hF0.trans hF').trans hF2⟩
     ·rw [List.mem_range]
      constructor
      ·intro hi;exact ⟨hi,by simp [Array.getD_eq_getD_getElem?,hi]⟩
      ·exact fun hh=>hh.1
     ·rw [List.range_eq_range',zox _ _ ops.size 0 (by omega)]
      simpa using hrun
   | seq x y =>
    rw [evN] at h
    simp only [codeOK,Bool.and_eq_true] at hcode
    simp only [Option.bind_eq_some_iff] at h
    obtain ⟨o,ho,h⟩:=h
    refine wp_seq (wp_mono (ihC n (Nat.le_refl _) d f N x hcode.1 σ o ho G w a hS hd) fun e a' w' hp=>?_)
    cases e with
    | normal =>
     obtain ⟨h0,σ',G',rfl,hS',hF'⟩:=hp
     exact wp_mono (ihC n (Nat.le_refl _) d f N y hcode.2 σ' out h G' w' a' hS' h0) fun e a w hh=>postC.trans hF' e a w hh
    | exit id =>
     obtain ⟨h0,σ',G',rfl,hS',hF'⟩:=hp
     simp only [Out.then,Option.some.injEq] at h
     subst h
     exact ⟨h0,σ',G',rfl,hS',hF'⟩
    | ret =>
     obtain ⟨h0,σ',G',rfl,hS',hF'⟩:=hp
     simp only [Out.then,Option.some.injEq] at h
     subst h
     exact ⟨h0,σ',G',rfl,hS',hF'⟩
    | goto l=>exact hp.elim
    | panic c=>exact hp.elim
    | outgrown=>exact hp.elim
   | cond x y z =>
    rw [evN] at h
    simp only [codeOK,Bool.and_eq_true] at hcode
    simp only [Option.bind_eq_some_iff] at h
    obtain ⟨t,ht,h⟩:=h
    have hv:=zmn ht (hS.opnd x)
    refine wp_cond hv ?_
    cases t with
    | true=>exact ihC n (Nat.le_refl _) d f N y hcode.1 σ out h G w a hS hd
    | false=>exact ihC n (Nat.le_refl _) d f N z hcode.2 σ out h G w a hS hd
   | block id x =>
    rw [evN] at h
    simp only [codeOK] at hcode
    simp only [Option.bind_eq_some_iff,Option.some.injEq] at h
    obtain ⟨o,ho,rfl⟩:=h
    refine wp_block (wp_mono (ihC n (Nat.le_refl _) d f N x hcode σ o ho G w a hS hd) fun e a' w' hp=>?_)
    cases e with
    | normal =>
     obtain ⟨h0,σ',G',rfl,hS',hF'⟩:=hp
     exact ⟨h0,σ',G',rfl,hS',hF'⟩
    | exit id' =>
     obtain ⟨h0,σ',G',rfl,hS',hF'⟩:=hp
     show if id'=id then _ else _
     simp only [Out.blk]
     by_cases hid:id'=id
     ·simp only [hid,if_true]
      exact ⟨h0,σ',G',rfl,hS',hF'⟩
     ·simp only [hid,if_false]
      exact ⟨h0,σ',G',rfl,hS',hF'⟩
    | ret =>
     obtain ⟨h0,σ',G',rfl,hS',hF'⟩:=hp
     exact ⟨h0,σ',G',rfl,hS',hF'⟩
    | goto l=>exact hp.elim
    | panic c=>exact hp.elim
    | outgrown=>exact hp.elim
   | loop x =>
    simp only [codeOK] at hcode
    have h':=h
    rw [evN] at h
    simp only [Option.bind_eq_some_iff] at h
    obtain ⟨kk,hkk,_⟩:=h
    exact wp_loop_rounds (n+1) (rounds_of hkk (n+1) (fun m hm σ out hm2=>ihC m (by omega) d f N x hcode σ out hm2) σ out h' G w a hS hd)
   | _=>rw [evN] at h;cases h
  refine ⟨fun m hm=>?_,fun m hm=>?_⟩
  ·rcases Nat.lt_or_ge m (n+1) with h | h
   ·exact ihA m (by omega)
   ·have:m=n+1:=by omega
    subst this
    exact hA
  ·rcases Nat.lt_or_ge m (n+1) with h | h
   ·exact ihC m (by omega)
   ·have:m=n+1:=by omega
    subst this
    exact hC

theorem zmu {g:Cfg} (hctx:CtxOK g) {d f:Nat} {args:List AV} {mem mem':Mem} {r:AV} (h:callo g d f args mem=some (r,mem')):CallOK g.P d f args mem mem' r:=by
 unfold callo at h
 rw [zez (zgj g d f args mem)] at h
 obtain ⟨n,hn⟩:=h
 exact ((sound g hctx n).1 n (Nat.le_refl _) d f args mem r mem' hn).1

theorem sound_calloE {g:Cfg} (hctx:CtxOK g) {d f:Nat} {args:List AV} {mem mem':Mem} {r:AV} (hn:lookN f g.ctx=none) (hn2:lookN f g.pctx=none) (h:callo g d f args mem=some (r,mem')):CallE g.P d f args mem mem' r:=by
 unfold callo at h
 rw [zez (zgj g d f args mem)] at h
 obtain ⟨n,hn'⟩:=h
 exact ((sound g hctx n).1 n (Nat.le_refl _) d f args mem r mem' hn').2 hn hn2

def mem0:Mem:=fun _=>none

theorem PC.of_ev {g:Cfg} (hctx:CtxOK g) {f:Nat} {F:List AV→Option AV} (hE:Enters g.P f) (h:∀ args r,F args=some r→∃ m,callo g 0 f args mem0=some (r,m)):PC g.P f F:=by
 refine ⟨hE,fun args r hF G w vals hflat hlive hage hA=>?_⟩
 obtain ⟨m,hm⟩:=h args r hF
 have hM:MemOK 0 G mem0 w:={
  cells:=fun k cs hk=>by cases hk
  live:=fun k=>⟨fun hh=>(hlive k hh).elim,fun hh=>by cases hh⟩
  dep:=fun k hk=>(hlive k hk).elim
  wf:=fun b t hb=>(hflat b t hb).2
  wfb:=fun b k hb=>by have:=(hflat b _ hb).1;cases this
  wfc:=fun b k p hb=>by have:=(hflat b _ hb).1;cases this
  age:=fun b=>Nat.le_of_eq (hage b)
  fut:=fun b _=>hage b
  aged:=fun b t hb=>by have:=(hflat b t hb).1;subst this;exact Nat.zero_le _ }
 refine ((zmu hctx hm).2 G w vals hA hM).mono fun e w' he=>?_
 obtain ⟨v,G',rfl,hRA,hM',hF'⟩:=he
 refine ⟨v,G',rfl,hRA,hF'.size,hF'.kept,fun b hb=>hF'.same b hb ?_,fun b t hb=>hM'.wf b t hb⟩
 cases hg:G.own b with
 | none=>exact fun h=>h
 | some t=>have:=(hflat b t hg).1;subst this;exact fun h=>h

theorem PX.of_ev {g:Cfg} (hctx:CtxOK g) {f:Nat} {F:List C→List AV→Option (AV × List C)} (hE:Enters g.P f)
 (h:∀ cs la r cs',F cs la=some (r,cs')→cs≠[]∧cs.all C.shr?=true∧cs'.all C.shr?=true∧cs'≠[]∧(r.own?=true∨r.data?=true)∧callo g 0 f (.one (.ptr (0,0) 0) :: la) (upd mem0 (0,0) (some cs))=some (r,upd mem0 (0,0) (some cs'))):PX g.P f F :=
 ⟨hE,fun cs la r cs' hF=>by
  obtain ⟨h1,h2,h3,h4,h5,h6⟩:=h cs la r cs' hF
  exact ⟨h1,h2,h3,h4,h5,zmu hctx h6⟩⟩

theorem BC.of_ev {g:Cfg} (hctx:CtxOK g) {f t t0:Nat} {fn:Func} {c:Code} {F:List AV→Option (List C)} (hf:g.P.funcs[f]?=some fn) (hb:fn.body=some c) (hok:fnOK g f fn=true) (hres:fn.results.toList=[.tmp t])
 (h:∀ args cs,F args=some cs→args.length≤fn.ntmps∧cs≠[]∧cs.all C.shr?=true∧∃ out σ,evo g 1 f c { env:=fun t=>(args[t]?).getD .dead,mem:=mem0 }=some out∧out.done=some σ∧σ.env t=.one (.ptr (1,t0) 0)∧σ.mem (1,t0)=some cs):BC g.P f F:=by
 intro args cs hF
 obtain ⟨hlen,hne,hsh,out,σ,hout,hdone,henv,hmem⟩:=h args cs hF
 unfold fnOK at hok
 rw [hb] at hok
 simp only [Bool.and_eq_true] at hok
 obtain ⟨⟨hcode,hname⟩,_⟩:=hok
 refine ⟨⟨⟨fn,hf,by rw [hb];rfl,by simpa using hname⟩,fun G w vals hsz hargs hM hfor hage=>?_⟩,hsh⟩
 refine calls_of_wp hf hb ?_
 have hS:Sim 1 fn.ntmps G { env:=fun t=>(args[t]?).getD .dead,mem:=mem0 } (vals ++ Array.replicate (fn.ntmps - vals.size) undef) w :=
  MemOK.sim (d:=1) (σ:={ env:=fun t=>(args[t]?).getD .dead,mem:=mem0 }) hM (by rw [Array.size_append,Array.size_replicate,hsz];omega) (fun t=>zjx hargs t) fun hl=>by
   have:=(hM.live _).1 hl
   cases this
 unfold evo at hout
 rw [zez (zfl g 1 f c _)] at hout
 obtain ⟨n,hn⟩:=hout
 refine wp_mono ((sound g hctx n).2 n (Nat.le_refl _) 1 f fn.ntmps c hcode _ _ hn G w { tmps:=vals ++ Array.replicate (fn.ntmps - vals.size) undef,defers:=[] } hS rfl) ?_
 refine zna hdone fun σ2 G2 tm w2 h2 hS2 hF2=>?_
 rw [hdone] at h2
 cases h2
 obtain ⟨v,hrun,hread⟩:=hS2.rsrc (P:=g.P) (rv:=.tmp t) (r:=.sl t) rfl rfl
 obtain ⟨_,rfl⟩:=hread
 have hrun':=zjq (P:=g.P) (fn:=fn) (tm:=tm) (w:=w2) (vs:=[tm.getD t undef]) (by rw [hres];rfl) fun i rv' v' hrv' hv'=>by
  cases i with
  | zero=>rw [hres] at hrv';cases hrv';cases hv';exact hrun
  | succ i=>simp at hv'
 have hv:=hS2.env t
 rw [henv] at hv
 obtain ⟨_,hv⟩:=hv
 obtain ⟨arr,el,h1,h2,h3,h4⟩:=hS2.mem (1,t0) cs hmem hne
 refine ⟨_,hrun',G2.β (1,t0),G2,by show Ending.returned (tm.getD t undef)=_;rw [hv],?_,⟨arr,el,h1,h4.1,fun j c hj=>?_⟩,by rw [h2];simp,hS2.wf,hF2⟩
 ·rcases Nat.lt_or_ge (G2.β (1,t0)) w.heap.size with hlt | hge
  ·exfalso
   have hnt:¬ touch 1 (G.own (G2.β (1,t0))):=by
    cases ho:G.own (G2.β (1,t0)) with
    | none=>exact fun h=>h
    | some tg=>rw [hfor _ tg ho];exact fun h=>h
   have:=(hF2.same _ hlt hnt).2.1
   rw [h2] at this
   have:=hfor _ _ this.symm
   cases this
  ·exact hge
 ·obtain ⟨x,hx,hr⟩:=h4.2 j c hj
  rw [List.all_eq_true] at hsh
  exact ⟨x,hx,zjl (hsh c (List.mem_of_getElem? hj)) (fun b hb=>⟨hb,Nat.le_refl _⟩) hr⟩
end Go.Ev


namespace Go.Ev
open Go.WideShapes

def tiles (P:Program):Nat→List Field→Option Nat
 | off,[]=>some off
 | off,f :: r=>if f.offset=off then tiles P (off+P.cellsOf f.type) r else none

def plainB (P:Program) (L:List Nat) (t:Nat):Bool:=match P.underlying t with
 | some (.int .i64) | some (.int .u8) | some .bool | some .string=>true
 | some (.slice e)=>L.contains e && decide (0 < P.cellsOf e)
 | some (.struct fs)=>(fs.all fun f=>L.contains f.type) && tiles P 0 fs.toList == some (P.cellsOf t)
 | _=>false
def closedB (P:Program) (L:List Nat):Bool:=L.all (plainB P L)

inductive Typed (P:Program):Nat→List D→Prop
 | int {t:Nat} {k:IntKind} (n:Int) (ht:P.underlying t=some (.int k)) (hn:(Lit.int k n).wf=true):Typed P t [.sc (.int k n)]
 | bool {t:Nat} (b:Bool) (ht:P.underlying t=some .bool):Typed P t [.sc (.bool b)]
 | string {t:Nat} (s:ByteArray) (ht:P.underlying t=some .string) (hs:s.size≤maxLen):Typed P t [.sc (.string s)]
 | slice {t e:Nat} (ht:P.underlying t=some (.slice e)) (xs:List (List D)) (hx:∀ x∈xs,Typed P e x) (hxl:∀ x∈xs,x.length=P.cellsOf e) (hn:xs.length≤maxLen):Typed P t [.sl xs.length xs.flatten]
 | struct {t:Nat} {fs:Array Field} (ht:P.underlying t=some (.struct fs)) (xs:List (List D)) (hl:xs.length=fs.toList.length) (hx:∀ (i:Nat) (f:Field) x,fs.toList[i]?=some f→xs[i]?=some x→Typed P f.type x)
  (hxl:∀ (i:Nat) (f:Field) x,fs.toList[i]?=some f→xs[i]?=some x→x.length=P.cellsOf f.type):Typed P t xs.flatten

theorem tiles_len {P:Program}:∀ {fs:List Field} {xs:List (List D)} {off tot:Nat},tiles P off fs=some tot→xs.length=fs.length→(∀ (i:Nat) (f:Field) x,fs[i]?=some f→xs[i]?=some x→x.length=P.cellsOf f.type)→off+xs.flatten.length=tot
 | [],xs,off,tot,h,hl,_=>by
  have:xs=[]:=List.length_eq_zero_iff.1 hl
  subst this
  simp only [tiles,Option.some.injEq] at h
  simp [h]
 | f :: fs,[],off,tot,h,hl,_=>by simp at hl
 | f :: fs,x :: xs,off,tot,h,hl,hx=>by
  simp only [tiles] at h
  split at h
  ·have h0:=hx 0 f x rfl rfl
   have:=tiles_len h (by simpa using hl) fun i f x hf hx'=>hx (i+1) f x hf hx'
   rw [List.flatten_cons,List.length_append,h0]
   omega
  ·cases h

theorem tiles_get {P:Program}:∀ {fs:List Field} {xs:List (List D)} {off tot:Nat},tiles P off fs=some tot→xs.length=fs.length→(∀ (i:Nat) (f:Field) x,fs[i]?=some f→xs[i]?=some x→x.length=P.cellsOf f.type) →
 ∀ (j:Nat) d,xs.flatten[j]?=some d→∃ (i:Nat) (f:Field) (x:List D) (k:Nat),fs[i]?=some f∧xs[i]?=some x∧x[k]?=some d∧off+j=f.offset+k
 | [],xs,off,tot,h,hl,_,j,d,hd=>by
  have:xs=[]:=List.length_eq_zero_iff.1 hl
  subst this
  simp at hd
 | f :: fs,[],off,tot,h,hl,_,j,d,hd=>by simp at hl
 | f :: fs,x :: xs,off,tot,h,hl,hx,j,d,hd=>by
  simp only [tiles] at h
  split at h
  ·rename_i hof
   have h0:=hx 0 f x rfl rfl
   rw [List.flatten_cons,List.getElem?_append] at hd
   split at hd
   ·exact ⟨0,f,x,j,rfl,rfl,hd,by omega⟩
   ·obtain ⟨i,f',x',k,h1,h2,h3,h4⟩:=tiles_get h (by simpa using hl) (fun i f x hf hx'=>hx (i+1) f x hf hx') _ d hd
    exact ⟨i+1,f',x',k,h1,h2,h3,by omega⟩
  ·cases h

theorem mapM_range {α:Type} {F:Nat→Option α}:∀ {n:Nat} {r:List α},(List.range n).mapM F=some r→r.length=n∧∀ (i:Nat) x,r[i]?=some x→F i=some x:=by
 intro n r h
 obtain ⟨h1,h2⟩:=zkk h
 rw [List.length_range] at h1
 refine ⟨h1,fun i x hi=>?_⟩
 obtain ⟨y,hy,hF⟩:=h2 i x hi
 have hlt:i < n:=by rw [← h1];exact (List.getElem?_eq_some_iff.1 hi).1
 rw [List.getElem?_range hlt] at hy
 cases hy
 exact hF

theorem cells?_get {w:World} {base n:Nat} {a:Addr} {cs:List Value} (h:w.cells? base a n=some cs):cs.length=n∧∀ (i:Nat) x,cs[i]?=some x→w.cell? (a.add i)=some x:=by
 unfold World.cells? at h
 split at h
 ·exact mapM_range h
 ·cases h

def gh0 (w:World):Gh where
 own:=fun _=>none
 use:=fun b=>match w.heap[b]? with | some (.cells arr _ _)=>arr.size | _=>0
 β:=fun _=>0
 live:=fun _=>False
 age:=fun _=>0
 cap:=fun _=>0

theorem use_gh0 {w:World} {b off:Nat} {v:Value} (h:w.cell? ⟨b,off,none⟩=some v):off < (gh0 w).use b:=by
 unfold World.cell? at h
 show off < match w.heap[b]? with | some (.cells arr _ _)=>arr.size | _=>0
 split at h
 ·rename_i c _ _ hc
  simp only [Option.isSome_none,Bool.false_eq_true,if_false] at h
  rw [hc]
  exact (Array.getElem?_eq_some_iff.1 h).1
 ·cases h

theorem spot_none {w:World} {a:Addr} {v:Value} (h:w.cell? a=some v):a.spot=none:=by
 unfold World.cell? at h
 split at h
 ·split at h
  ·cases h
  ·rename_i hs;simpa using hs
 ·cases h

theorem flat_len {n:Nat}:∀ (l:List (List D)),(∀ x∈l,x.length=n)→l.flatten.length=l.length * n
 | [],_=>by simp
 | x :: l,h=>by rw [List.flatten_cons,List.length_append,h x (List.mem_cons_self ..),flat_len l fun y hy=>h y (List.mem_cons_of_mem _ hy),List.length_cons,Nat.add_mul,Nat.one_mul,Nat.add_comm]

theorem flat_get {n:Nat} (hpos:0 < n):∀ (l:List (List D)),(∀ x∈l,x.length=n)→∀ {i:Nat} {d:D},l.flatten[i]?=some d→∃ x,l[i / n]?=some x∧x[i % n]?=some d
 | [],_,i,d,hd=>by simp at hd
 | x :: l,hl,i,d,hd=>by
  have hx:=hl x (List.mem_cons_self ..)
  rw [List.flatten_cons,List.getElem?_append] at hd
  split at hd
  ·rename_i hlt
   rw [hx] at hlt
   rw [Nat.div_eq_of_lt hlt,Nat.mod_eq_of_lt hlt]
   exact ⟨x,rfl,hd⟩
  ·rename_i hge
   rw [hx] at hge hd
   obtain ⟨y,hy1,hy2⟩:=flat_get hpos l (fun y hy=>hl y (List.mem_cons_of_mem _ hy)) hd
   have hdiv:i / n=(i - n) / n+1:=by
    rw [Nat.div_eq i,if_pos ⟨hpos,by omega⟩]
   refine ⟨y,by rw [hdiv,List.getElem?_cons_succ];exact hy1,?_⟩
   rw [← Nat.mod_eq_sub_mod (by omega)] at hy2
   exact hy2

theorem zlf {H:Type} {enc:TypeId × Value→H} {P:Program} {w:World} {base:Nat} {spare:Nat→Bool} {held:Bool} {L:List Nat} (hL:closedB P L=true) :
 ∀ (fuel:Nat) (t:Nat) (cs:List Value) (x:DataW H × List MemPlace),t∈L→DataW.trod enc P w base spare held fuel t cs=some x →
  ∃ ds,Typed P t ds∧ds.length=cs.length∧∀ (j:Nat) d v,ds[j]?=some d→cs[j]?=some v→∀ o p,RD w (gh0 w) o .shr p d v
 | 0,t,cs,x,_,h=>by simp [DataW.trod] at h
 | fuel+1,t,cs,x,ht,h=>by
  have hp:plainB P L t=true:=by
   unfold closedB at hL
   rw [List.all_eq_true] at hL
   exact hL t ht
  have one:∀ (d:D) (v:Value),(∀ o p,RD w (gh0 w) o .shr p d v)→∀ (j:Nat) d' v',([d]:List D)[j]?=some d'→([v]:List Value)[j]?=some v'→∀ o p,RD w (gh0 w) o .shr p d' v':=by
   intro d v hr j d' v' h1 h2
   cases j with
   | zero=>cases h1;cases h2;exact hr
   | succ j=>simp at h1
  unfold plainB at hp
  cases hu:P.underlying t with
  | none=>rw [hu] at hp;simp at hp
  | some desc =>
  rw [hu] at hp
  cases desc with
  | bool =>
   obtain ⟨b,rfl,_⟩:=DataW.trod_bool hu h
   exact ⟨[.sc (.bool b)],.bool b hu,rfl,one _ _ fun o p=>by rw [RD];exact ⟨rfl,rfl⟩⟩
  | int k =>
   obtain ⟨n,rfl,_,hwf⟩:=DataW.trod_int hu h
   exact ⟨[.sc (.int k n)],.int n hu hwf,rfl,one _ _ fun o p=>by rw [RD];exact ⟨rfl,rfl⟩⟩
  | string =>
   obtain ⟨s,rfl,_,hs⟩:=DataW.trod_string hu h
   exact ⟨[.sc (.string s)],.string s hu hs,rfl,one _ _ fun o p=>by rw [RD];exact ⟨rfl,rfl⟩⟩
  | slice e =>
   simp only [Bool.and_eq_true,List.contains_eq_mem,decide_eq_true_eq] at hp
   obtain ⟨heL,hpos⟩:=hp
   rcases DataW.trod_slice hu h with ⟨rfl,_⟩|⟨a,len,cap,elems,rest,n,hn,rfl,_,hb,hlc,hcm,hel,heg,_,_⟩
   ·exact ⟨[.sl 0 []],by simpa using Typed.slice hu [] (fun x hx=>by cases hx) (fun x hx=>by cases hx) (Nat.zero_le _),rfl,one _ _ fun o p=>by rw [RD];exact .inl ⟨rfl,rfl,none,0,rfl,by simp [Md.isOwn]⟩⟩
   ·have hn':n=fuel:=by omega
    subst hn'
    have helem:∀ i,i < len→∃ ds,(Typed P e ds∧ds.length=P.cellsOf e)∧∀ (j:Nat) d,ds[j]?=some d→∃ v,w.cell? ((a.add (i * P.cellsOf e)).add j)=some v∧∀ o p,RD w (gh0 w) o .shr p d v:=by
     intro i hi
     have hx:=heg i hi
     rw [List.getElem?_eq_getElem (by omega),Option.bind_eq_some_iff] at hx
     obtain ⟨cs',hcs',hx⟩:=hx
     obtain ⟨hcl,hcg⟩:=cells?_get hcs'
     obtain ⟨ds,h1,h2,h3⟩:=zlf hL n e cs' _ heL hx
     refine ⟨ds,⟨h1,by rw [h2,hcl]⟩,fun j d hj=>?_⟩
     have hjl:j < cs'.length:=by rw [← h2];exact (List.getElem?_eq_some_iff.1 hj).1
     have hv:=List.getElem?_eq_getElem hjl
     exact ⟨_,hcg j _ hv,h3 j d _ hj hv⟩
    obtain ⟨xs,hxl,hxg⟩:=zic len helem
    have hlen:∀ x∈xs,x.length=P.cellsOf e:=fun x hx=>by
     obtain ⟨i,hi⟩:=List.getElem?_of_mem hx
     exact (hxg i x hi).1.2
    refine ⟨[.sl len xs.flatten],?_,rfl,one _ _ fun o p=>?_⟩
    ·have:=Typed.slice hu xs (fun x hx=>by
      obtain ⟨i,hi⟩:=List.getElem?_of_mem hx
      exact (hxg i x hi).1.1) hlen (by omega)
     rwa [hxl] at this
    ·rw [RD]
     by_cases h0:len=0
     ·left
      subst h0
      have:xs=[]:=List.length_eq_zero_iff.1 hxl
      subst this
      exact ⟨rfl,rfl,some a,cap,rfl,by simp [Md.isOwn]⟩
     ·right
      have hfl:xs.flatten.length=len * P.cellsOf e:=by
       rw [← hxl]
       exact flat_len xs hlen
      have hcells:∀ (i:Nat) d,xs.flatten[i]?=some d→∃ v,w.cell? (a.add i)=some v∧∀ o p,RD w (gh0 w) o .shr p d v:=by
       intro i d hi
       obtain ⟨x,hx1,hx2⟩:=flat_get hpos xs hlen hi
       obtain ⟨v,hv,hr⟩:=(hxg _ x hx1).2 _ d hx2
       refine ⟨v,?_,hr⟩
       have hi':i / P.cellsOf e * P.cellsOf e+i % P.cellsOf e=i:=by rw [Nat.mul_comm];exact Nat.div_add_mod i _
       rw [Addr.add_add,hi'] at hv
       exact hv
      have hflpos:0 < xs.flatten.length:=by rw [hfl];exact Nat.mul_pos (Nat.pos_of_ne_zero h0) hpos
      obtain ⟨v0,hv0,_⟩:=hcells 0 _ (List.getElem?_eq_getElem hflpos)
      have hsp:a.spot=none:=spot_none hv0
      have ha:a=⟨a.block,a.off,none⟩:=by cases a;simp only at hsp;subst hsp;rfl
      have hadd:∀ i,a.add i=⟨a.block,a.off+i,none⟩:=fun i=>by rw [ha,Addr.add_lit]
      refine ⟨by intro he;rw [he] at hflpos;exact absurd hflpos (by simp),Nat.pos_of_ne_zero h0,a.block,a.off,cap,by rw [← ha],hlc,⟨rfl,?_⟩,zlb fun j x hj=>?_⟩
      ·obtain ⟨v,hv,_⟩:=hcells (xs.flatten.length - 1) _ (List.getElem?_eq_getElem (by omega))
       rw [hadd] at hv
       have:=use_gh0 hv
       omega
      ·obtain ⟨v,hv,hr⟩:=hcells j x hj
       rw [hadd] at hv
       exact ⟨v,by rw [Nat.zero_add];exact hv,hr _ _⟩
  | struct fs =>
   simp only [Bool.and_eq_true,beq_iff_eq] at hp
   obtain ⟨hfL,htile⟩:=hp
   rw [Array.all_eq_true_iff_forall_mem] at hfL
   obtain ⟨xs0,n,hn,_,hcl,hxl0,hfg⟩:=DataW.trod_struct hu h
   have hn':n=fuel:=by omega
   subst hn'
   have helem:∀ i,i < fs.toList.length→∃ ds,∀ f,fs.toList[i]?=some f→Typed P f.type ds∧ds.length=((cs.drop f.offset).take (P.cellsOf f.type)).length ∧
    ∀ (j:Nat) d v,ds[j]?=some d→((cs.drop f.offset).take (P.cellsOf f.type))[j]?=some v→∀ o p,RD w (gh0 w) o .shr p d v:=by
    intro i hi
    have hf:fs[i]?=some fs.toList[i]:=by rw [← Array.getElem?_toList];exact List.getElem?_eq_getElem hi
    have hx:=hfg i _ hf
    rw [List.getElem?_eq_getElem (by rw [hxl0];simpa using hi)] at hx
    obtain ⟨ds,h1,h2,h3⟩:=zlf hL n _ _ _ (by have hm:=hfL fs.toList[i] (by simp);simpa using hm) hx
    exact ⟨ds,fun f hf'=>by rw [List.getElem?_eq_getElem hi] at hf';cases hf';exact ⟨h1,h2,h3⟩⟩
   obtain ⟨xs,hxl,hxg⟩:=zic fs.toList.length helem
   have hin:∀ (l:List Field) (off tot:Nat),tiles P off l=some tot→off≤tot∧∀ f∈l,f.offset+P.cellsOf f.type≤tot:=by
    intro l
    induction l with
    | nil=>intro off tot ht;simp only [tiles,Option.some.injEq] at ht;exact ⟨by omega,fun f hf=>by cases hf⟩
    | cons f l ih =>
     intro off tot ht
     simp only [tiles] at ht
     split at ht
     ·rename_i hof
      obtain ⟨a1,a2⟩:=ih _ _ ht
      exact ⟨by omega,fun f' hf'=>by
       cases hf' with
       | head=>omega
       | tail _ hm=>exact a2 f' hm⟩
     ·cases ht
   have hlens:∀ (i:Nat) (f:Field) x,fs.toList[i]?=some f→xs[i]?=some x→x.length=P.cellsOf f.type:=by
    intro i f x hf hx
    have h1:=(hxg i x hx f hf).2.1
    have h2:=(hin _ _ _ htile).2 f (List.mem_of_getElem? hf)
    rw [h1,List.length_take,List.length_drop,hcl]
    omega
   refine ⟨xs.flatten,Typed.struct hu xs hxl (fun i f x hf hx=>(hxg i x hx f hf).1) hlens,?_,fun j d v hd hv o p=>?_⟩
   ·have:=tiles_len htile hxl hlens
    rw [hcl];omega
   ·obtain ⟨i,f,x,k,h1,h2,h3,h4⟩:=tiles_get htile hxl hlens j d hd
    refine (hxg i x h2 f h1).2.2 k d v h3 ?_ o p
    have hk:k < P.cellsOf f.type:=by rw [← hlens i f x h1 h2];exact (List.getElem?_eq_some_iff.1 h3).1
    rw [List.getElem?_take,if_pos hk,List.getElem?_drop,← hv]
    congr 1
    omega
  | _=>simp at hp

def argAV (P:Program) (t:Nat) (ds:List D):AV:=match P.underlying t with
 | some (.struct _)=>.ag (ds.map (C.ofD .shr))
 | _=>match ds with
  | [d]=>.one (C.ofD .shr d)
  | _=>.dead

theorem arg_ok {H:Type} {enc:TypeId × Value→H} {P:Program} {w:World} {base b0:Nat} {r:Reach} {spare:Nat→Bool} {held:Bool} {L:List Nat} (hL:closedB P L=true) {t:Nat} (ht:t∈L) {v:Value} {d:DataW H} {ps:List MemPlace}
 (hval:Value.okWide P w r b0 t v) (hd:DataW.Trod enc P w base spare held t v d ps):∃ ds,Typed P t ds∧∀ o,RA w (gh0 w) o (argAV P t ds) v:=by
 obtain ⟨fuel,hf⟩:=hd
 obtain ⟨ds,h1,h2,h3⟩:=zlf hL fuel t _ _ ht hf
 refine ⟨ds,h1,fun o=>?_⟩
 have one:∀ u:Value,v=u→u.cells = #[u]→(∀ fs,P.underlying t≠some (.struct fs))→RA w (gh0 w) o (argAV P t ds) v:=by
  intro u hu hc hns
  subst hu
  rw [hc] at h2 h3
  obtain ⟨x,rfl⟩:∃ x,ds=[x]:=List.length_eq_one_iff.1 (by simpa using h2)
  have:argAV P t [x]=.one (C.ofD .shr x):=by
   unfold argAV
   split
   ·rename_i fs hfs;exact absurd hfs (hns fs)
   ·rfl
  rw [this]
  exact RC_ofD (h3 0 x v rfl rfl o [])
 cases h1 with
 | int n hu hn=>obtain ⟨m,rfl⟩:=okWide_int hu hval;exact one _ rfl rfl (fun fs h=>by rw [hu] at h;cases h)
 | bool b hu=>obtain ⟨m,rfl⟩:=okWide_bool hu hval;exact one _ rfl rfl (fun fs h=>by rw [hu] at h;cases h)
 | string s hu hs=>obtain ⟨m,rfl⟩:=okWide_string hu hval;exact one _ rfl rfl (fun fs h=>by rw [hu] at h;cases h)
 | slice hu xs hx hxl hn=>obtain ⟨a,len,cap,rfl⟩:=okWide_slice hu hval;exact one _ rfl rfl (fun fs h=>by rw [hu] at h;cases h)
 | struct hu xs hl hx hxl =>
  obtain ⟨cs,rfl,_⟩:=okWide_struct hu hval
  have:argAV P t xs.flatten=.ag (xs.flatten.map (C.ofD .shr)):=by unfold argAV;rw [hu]
  rw [this]
  refine ⟨cs,rfl,by rw [List.length_map];exact h2.symm,fun j c hj=>?_⟩
  rw [List.getElem?_map] at hj
  cases hx2:xs.flatten[j]? with
  | none=>rw [hx2] at hj;cases hj
  | some x =>
   rw [hx2] at hj
   cases hj
   have hjl:j < cs.toList.length:=by
    have h2':xs.flatten.length=cs.toList.length:=h2
    rw [← h2'];exact (List.getElem?_eq_some_iff.1 hx2).1
   exact ⟨_,List.getElem?_eq_getElem hjl,RC_ofD (h3 j x _ hx2 (List.getElem?_eq_getElem hjl) o _)⟩

theorem PC.law {P:Program} {f:Nat} {F:List AV→Option AV} (h:PC P f F) {w:World} {args:Array Value} {avs:List AV} (hF:F avs=some (.one (.s (.bool true)))) (hl:args.size=avs.length)
 (ha:∀ (i:Nat) x v,avs[i]?=some x→args[i]?=some v→∀ o,RA w (gh0 w) o x v) :
 Calls P f args w fun e w'=>e=.returned (.bool true)∧Kept w w'∧w.heap.size≤w'.heap.size∧∀ b,b < w.heap.size→w'.heap[b]?=w.heap[b]?:=by
 refine (h.2 avs _ hF (gh0 w) w args (fun b t hb=>by cases hb) (fun k hk=>hk) (fun _=>rfl) ⟨hl,fun i x hi=>?_⟩).mono fun e w' he=>?_
 ·have hlt:i < args.size:=by rw [hl];exact (List.getElem?_eq_some_iff.1 hi).1
  exact ⟨args[i],Array.getElem?_eq_getElem hlt,fun d t=>ha i x _ hi (Array.getElem?_eq_getElem hlt) _⟩
 ·obtain ⟨v,G',rfl,hR,hsz,hk,hold,_⟩:=he
  obtain ⟨rfl,_⟩:=hR
  exact ⟨rfl,hk,hsz,fun b hb=>(hold b hb).1⟩

theorem post_read {H:Type} {enc:TypeId × Value→H} {P:Program} {f:Func} {s:ChangeSpec} {apart fresh handsOn again:Bool} {W W':World} {args:Array Value} {v:Value} {ds gs:List (DataW H)} {pa:List MemPlace}
 (hW:DataW.Whole enc P f.params.toList s.vars apart W args.toList ds gs (pa ++ []))
 (hres:∀ (b:Nat) (sp:Nat→Bool) (hd:Bool),DataW.TrodAll enc P W' b sp hd f.resultTypes.toList (v.resultList f.resultTypes.size) (s.fn H (ds ++ gs)).results [])
 (hargs:∀ sp:Nat→Bool,(∀ p∈pa ++ ([]:List MemPlace),sp p.block=true)→DataW.TrodAll enc P W' 0 sp true f.params.toList args.toList (s.fn H (ds ++ gs)).args pa)
 (hvars:∀ sp:Nat→Bool,DataW.TrodVars enc P W' sp s.vars (s.fn H (ds ++ gs)).vars [])
 (hk:W.keptBut W' (·∈pa ++ [])) (hfz:∀ a:Addr,a.block < W.heap.size→W'.frozen? a=W.frozen? a)
 (hok:∀ (j:Nat) (t:TypeId) (r:Value),f.resultTypes[j]?=some t→(v.resultList f.resultTypes.size)[j]?=some r→Value.okWide P W' .any 0 t r) :
 s.post enc P f apart fresh handsOn again W args v W':=by
 have hlt:=hW.lt
 have hsp:∀ p∈pa ++ ([]:List MemPlace),(fun b=>decide (b < W.heap.size)) p.block=true:=fun p hp=>by simpa using hlt p hp
 have hkb:W.keptBut W' fun p=>p∈pa ++ []∧(p∈([]:List MemPlace)∨p∈pa ++ []):=World.keptBut_mono (fun p hp=>⟨hp,.inr hp⟩) hk
 obtain ⟨x1,x2,x3,x4,x5,hz,hn⟩:=hW
 refine ⟨ds,gs,pa ++ [],[],pa,[],⟨x1,x2,x3,x4,x5,hz,hn⟩,hres _ _ _,hargs _ hsp,hvars _,World.keptBut_mono (fun p hp=>⟨hp,by simpa using hp⟩) hk,fun _=>⟨hok,_,_,([] ++ pa) ++ [],⟨[] ++ pa,[],ChangeShapes.trodAll_append (hargs _ fun _ _=>rfl) (hres _ _ _),hvars _,rfl,fun b off hp=>?_,fun ha=>by simpa using hn ha⟩,fun p hp _=>by simpa using hp⟩⟩
 have hp':MemPlace.cell b off∈pa ++ []:=by simpa using hp
 have hb:b < W.heap.size:=hlt _ hp'
 rw [hfz _ hb]
 exact hz b off hp'

end Go.Ev


namespace Go.Ev

theorem callo_fn {g:Cfg} {d f:Nat} {args:List AV} {mem:Mem} {fn:Func} {c:Code} (h0:lookN f g.ctx=none) (h1:g.P.funcs[f]?=some fn) (h2:fn.body=some c) (h3:fnOK g f fn=true) (h4:args.length≤fn.ntmps) :
 callo g d f args mem=(evo g (d+1) f c { env:=fun t=>(args[t]?).getD .dead,mem }).bind fun out=>out.done.bind fun σ=>(ghoAt g (d+1) f atEnd σ).bind fun σ =>
  (retVal g.P (d+1) fn σ).bind fun r=>some (r.kill (fun k=>d < k.1),memKill (fun k=>d < k.1) σ.mem):=by
 rw [zmj,h0]
 simp only [h1,h2,h3]
 have:¬ args.length > fn.ntmps:=by omega
 simp [this]

def envL:List (Nat × AV)→Nat→AV
 | [],_=>.dead
 | (t,x) :: r,u=>if u=t then x else envL r u

theorem upd_get {α β:Type} [DecidableEq α] (f:α→β) (a:α) (b:β) (x:α):upd f a b x=if x=a then b else f x:=rfl

theorem envL_nil (u:Nat):envL [] u=.dead:=rfl
theorem envL_cons (t u:Nat) (x:AV) (r:List (Nat × AV)):envL ((t,x) :: r) u=if u=t then x else envL r u:=rfl

theorem envL_of (env:Nat→AV):∀ (ts:List Nat),(fun t=>if t∈ts then env t else AV.dead)=envL (ts.map fun t=>(t,env t))
 | []=>by funext t;simp [envL]
 | u :: r=>by
  funext t
  simp only [List.map_cons,envL]
  by_cases h:t=u
  ·subst h;simp
  ·simp only [h,if_false,List.mem_cons,false_or]
   exact congrFun (envL_of env r) t

theorem restrict_eq (d:Nat) (σ:St) (ts bs:List Nat) :
 restrict d σ (ts,bs)={ env:=envL (ts.map fun t=>(t,(σ.env t).kill (fun x=>x.1 == d && bs.contains x.2))),mem:=memKill (fun x=>x.1 == d && bs.contains x.2) σ.mem }:=by
 unfold restrict
 congr 1
 exact envL_of (fun t=>(σ.env t).kill _) ts

theorem memKill_none (mem:Mem):memKill (fun _=>false) mem=mem:=by
 funext k
 unfold memKill
 simp only [Bool.false_eq_true,if_false]
 cases mem k with
 | none=>rfl
 | some cs=>simp [zcf]

theorem restrict_nil (d:Nat) (σ:St) (ts:List Nat):restrict d σ (ts,[])={ env:=envL (ts.map fun t=>(t,σ.env t)),mem:=σ.mem }:=by
 rw [restrict_eq]
 have:(fun x:Key=>x.1 == d && ([]:List Nat).contains x.2)=fun _=>false:=by funext x;simp
 rw [this,memKill_none]
 congr 2
 exact List.map_congr_left fun t _=>by rw [AV.kill_none]

abbrev vI (n:Int):AV:=.one (.s (.int .i64 n))
abbrev vB (b:Bool):AV:=.one (.s (.bool b))
def binAV (P:Program) (op:BinOp) (t:TypeId) (x y:Operand) (X Y:AV):Option Value :=
 if (sclr X).isSome && (sclr Y).isSome then
  match pureOf P (do eqGuard op t x y ((sclr X).getD undef) ((sclr Y).getD undef);binOp op t ((sclr X).getD undef) ((sclr Y).getD undef)) with
  | some v=>if scal v then some v else none
  | none=>none
 else none

def unAV (P:Program) (op:UnOp) (X:AV):Option Value :=
 if (sclr X).isSome then
  match pureOf P (Op.unary op ((sclr X).getD undef)) with
  | some v=>if scal v then some v else none
  | none=>none
 else none

theorem zcp {α β:Type} (P:Program) (k:α→Sem β):∀ (s:Sem α),pureOf P (s >>= k)=(pureOf P s).bind fun a=>pureOf P (k a)
 | .pure a=>rfl
 | .program q=>by
  have:=zcp P k (q P)
  show pureOf P (q P >>= k)=_
  rw [this]
  rfl
 | .load ..=>rfl
 | .store ..=>rfl
 | .new ..=>rfl
 | .shape ..=>rfl
 | .freeze ..=>rfl
 | .frozen ..=>rfl
 | .getObj ..=>rfl
 | .setObj ..=>rfl
 | .choose ..=>rfl
 | .sys ..=>rfl
 | .mark ..=>rfl
 | .halt ..=>rfl

section
variable (g:Cfg) (d f:Nat) (σ:St) (dst:Option Nat) (pos:String) (after:Array Edge) (ty:TypeId) (guard:Option (Nat × Bool)) (t t2:Nat) (x y:Operand)

theorem opE_binOp (op:BinOp):opE g d f { dst,op:=.binOp op t x y t2,type:=ty,pos,after,guard } σ=(binAV g.P op t x y (opnd σ.env x) (opnd σ.env y)).map fun v=>(.one (.s v),σ):=by
 have:scalarOp g.P σ.env { dst,op:=.binOp op t x y t2,type:=ty,pos,after,guard }=binAV g.P op t x y (opnd σ.env x) (opnd σ.env y):=by
  unfold scalarOp binAV
  have h1:(Op.binOp op t x y t2).operands.all (fun x=>(sclr (opnd σ.env x)).isSome)=((sclr (opnd σ.env x)).isSome && (sclr (opnd σ.env y)).isSome):=by
   simp [Op.operands]
  simp only [h1]
  split
  ·simp only [execOp,zcp]
   cases h:(pureOf g.P (eqGuard op t x y ((sclr (opnd σ.env x)).getD undef) ((sclr (opnd σ.env y)).getD undef))) with
   | none=>simp
   | some u =>
    simp only [Option.bind_some]
    cases h2:pureOf g.P (binOp op t ((sclr (opnd σ.env x)).getD undef) ((sclr (opnd σ.env y)).getD undef)) with
    | none=>simp
    | some v=>rfl
  ·rfl
 simp only [opE,this]
 cases binAV g.P op t x y (opnd σ.env x) (opnd σ.env y) <;> rfl

theorem opE_unOp (op:UnOp):opE g d f { dst,op:=.unOp op t x,type:=ty,pos,after,guard } σ=(unAV g.P op (opnd σ.env x)).map fun v=>(.one (.s v),σ):=by
 have:scalarOp g.P σ.env { dst,op:=.unOp op t x,type:=ty,pos,after,guard }=unAV g.P op (opnd σ.env x):=by
  unfold scalarOp unAV
  have h1:(Op.unOp op t x).operands.all (fun x=>(sclr (opnd σ.env x)).isSome)=(sclr (opnd σ.env x)).isSome:=by
   simp [Op.operands]
  simp only [h1]
  split
  ·simp only [execOp,zcp]
   cases h2:pureOf g.P (Op.unary op ((sclr (opnd σ.env x)).getD undef)) with
   | none=>simp
   | some v=>rfl
  ·rfl
 simp only [opE,this]
 cases unAV g.P op (opnd σ.env x) <;> rfl
end

section
variable (P:Program) (t:TypeId) (x y:Operand) (a b:Int)
theorem bin_add:binAV P .add t x y (vI a) (vI b)=some (.int .i64 (IntKind.i64.wrap (a+b))):=by
 simp [binAV,sclr,eqGuard,binOp,Op.intArith,pureOf,pure,bind,Sem.bind,scal]
theorem bin_sub:binAV P .sub t x y (vI a) (vI b)=some (.int .i64 (IntKind.i64.wrap (a - b))):=by
 simp [binAV,sclr,eqGuard,binOp,Op.intArith,pureOf,pure,bind,Sem.bind,scal]
theorem bin_mul:binAV P .mul t x y (vI a) (vI b)=some (.int .i64 (IntKind.i64.wrap (a * b))):=by
 simp [binAV,sclr,eqGuard,binOp,Op.intArith,pureOf,pure,bind,Sem.bind,scal]
theorem bin_eql:binAV P .eql t x y (vI a) (vI b)=some (.bool (decide (a=b))):=by
 simp [binAV,sclr,eqGuard,binOp,Op.intCmp,pureOf,pure,bind,Sem.bind,scal]
 by_cases h:a=b <;> simp [h]
theorem bin_neq:binAV P .neq t x y (vI a) (vI b)=some (.bool (!decide (a=b))):=by
 simp [binAV,sclr,eqGuard,binOp,Op.intCmp,pureOf,pure,bind,Sem.bind,scal]
 by_cases h:a=b <;> simp [h]
theorem bin_lss:binAV P .lss t x y (vI a) (vI b)=some (.bool (decide (a < b))):=by
 simp [binAV,sclr,eqGuard,binOp,Op.intCmp,pureOf,pure,bind,Sem.bind,scal]
theorem bin_leq:binAV P .leq t x y (vI a) (vI b)=some (.bool (decide (a≤b))):=by
 simp [binAV,sclr,eqGuard,binOp,Op.intCmp,pureOf,pure,bind,Sem.bind,scal]
theorem bin_gtr:binAV P .gtr t x y (vI a) (vI b)=some (.bool (decide (b < a))):=by
 simp [binAV,sclr,eqGuard,binOp,Op.intCmp,pureOf,pure,bind,Sem.bind,scal]
theorem bin_geq:binAV P .geq t x y (vI a) (vI b)=some (.bool (decide (b≤a))):=by
 simp [binAV,sclr,eqGuard,binOp,Op.intCmp,pureOf,pure,bind,Sem.bind,scal]
theorem un_not (c:Bool):unAV P .not (vB c)=some (.bool (!c)):=by
 simp [unAV,sclr,Op.unary,pureOf,pure,scal]
end

abbrev vS (s:ByteArray):AV:=.one (.s (.string s))
section
variable (P:Program) (t:TypeId) (x y:Operand) (a b:ByteArray)
theorem bin_eqlS:binAV P .eql t x y (vS a) (vS b)=some (.bool (a.toList == b.toList)):=by
 simp [binAV,sclr,eqGuard,binOp,Op.stringOp,pureOf,pure,bind,Sem.bind,scal]
theorem bin_neqS:binAV P .neq t x y (vS a) (vS b)=some (.bool (!(a.toList == b.toList))):=by
 simp [binAV,sclr,eqGuard,binOp,Op.stringOp,pureOf,pure,bind,Sem.bind,scal]
end

end Go.Ev


namespace Go.Ev

inductive It where
 | code (c:Code)
 | blk (id:Nat)
 | gho (l:List Gho)
 /-- a piece of code that is walked by hand -/
 | pre (F:St→Option St)

def runK (g:Cfg) (d f:Nat):List It→Out→Option Out
 | [],o=>some o
 | .code c :: K,.norm σ=>(evo g d f c σ).bind (runK g d f K)
 | .code _ :: K,.exit id σ=>runK g d f K (.exit id σ)
 | .code _ :: K,.ret σ=>runK g d f K (.ret σ)
 | .blk id :: K,o=>runK g d f K (o.blk id)
 | .gho l :: K,.norm σ=>(ghoL d l σ).bind fun σ=>runK g d f K (.norm σ)
 | .gho _ :: K,.exit id σ=>runK g d f K (.exit id σ)
 | .gho _ :: K,.ret σ=>runK g d f K (.ret σ)
 | .pre F :: K,.norm σ=>(F σ).bind fun σ=>runK g d f K (.norm σ)
 | .pre _ :: K,.exit id σ=>runK g d f K (.exit id σ)
 | .pre _ :: K,.ret σ=>runK g d f K (.ret σ)

def evk (g:Cfg) (d f:Nat) (c:Code) (K:List It) (σ:St):Option Out:=(evo g d f c σ).bind (runK g d f K)
def opsK (g:Cfg) (d f:Nat) (ops:Array Oper) (l:List Oper) (K:List It) (σ:St):Option Out:=(opso g d f ops l σ).bind fun σ'=>runK g d f K (.norm σ')
def gK (g:Cfg) (d f:Nat) (ops:Array Oper) (want:Option Bool) (o:Oper) (l:List Oper) (K:List It) (σ:St):Option Out :=
 want.bind fun w=>if w then (stepo g d f o σ).bind fun σ'=>opsK g d f ops l K σ' else opsK g d f ops l K { σ with env:=putD σ.env o.dst .skp }
def stK (g:Cfg) (d f:Nat) (ops:Array Oper) (o:Oper) (l:List Oper) (K:List It) (σ:St):Option Out:=(stepo g d f o σ).bind fun σ'=>opsK g d f ops l K σ'
def putK (g:Cfg) (d f:Nat) (ops:Array Oper) (dst:Option Nat) (l:List Oper) (K:List It) (r:Option (AV × St)):Option Out :=
 r.bind fun vs=>opsK g d f ops l K { vs.2 with env:=putD vs.2.env dst vs.1 }

variable {g:Cfg} {d f:Nat}

theorem zqp (c:Code) (σ:St):evo g d f c σ=evk g d f c [] σ:=by
 unfold evk
 cases evo g d f c σ <;> rfl

theorem k_seq (a b:Code) (K:List It) (σ:St):evk g d f (.seq a b) K σ=evk g d f a (.code b :: K) σ:=by
 unfold evk
 rw [evo_seq]
 cases evo g d f a σ with
 | none=>rfl
 | some o=>cases o <;> rfl
theorem k_block (id:Nat) (a:Code) (K:List It) (σ:St):evk g d f (.block id a) K σ=evk g d f a (.blk id :: K) σ:=by
 unfold evk
 rw [evo_block]
 cases evo g d f a σ with
 | none=>rfl
 | some o=>rfl
theorem k_skip (K:List It) (σ:St):evk g d f .skip K σ=runK g d f K (.norm σ):=by
 unfold evk;rw [evo_skip];rfl
theorem k_exit (id:Nat) (K:List It) (σ:St):evk g d f (.exit id) K σ=runK g d f K (.exit id σ):=by
 unfold evk;rw [evo_exit];rfl
theorem k_ret (K:List It) (σ:St):evk g d f .ret K σ=runK g d f K (.ret σ):=by
 unfold evk;rw [evo_ret];rfl
theorem r_nil (o:Out):runK g d f [] o=some o:=by rw [runK]
theorem r_norm (c:Code) (K:List It) (σ:St):runK g d f (.code c :: K) (.norm σ)=evk g d f c K σ:=by rw [runK];rfl
theorem r_exit (c:Code) (K:List It) (id:Nat) (σ:St):runK g d f (.code c :: K) (.exit id σ)=runK g d f K (.exit id σ):=by rw [runK]
theorem r_ret (c:Code) (K:List It) (σ:St):runK g d f (.code c :: K) (.ret σ)=runK g d f K (.ret σ):=by rw [runK]
theorem r_preR (F:St→Option St) (K:List It) (σ:St):runK g d f (.pre F :: K) (.ret σ)=runK g d f K (.ret σ):=by rw [runK]
theorem r_pre {F:St→Option St} {σ σ':St} (h:F σ=some σ') (K:List It):runK g d f (.pre F :: K) (.norm σ)=runK g d f K (.norm σ'):=by rw [runK,h];rfl
theorem r_blkN (id:Nat) (K:List It) (σ:St):runK g d f (.blk id :: K) (.norm σ)=runK g d f K (.norm σ):=by rw [runK];rfl
theorem r_blkR (id:Nat) (K:List It) (σ:St):runK g d f (.blk id :: K) (.ret σ)=runK g d f K (.ret σ):=by rw [runK];rfl
theorem r_blkE (id id':Nat) (K:List It) (σ:St):runK g d f (.blk id :: K) (.exit id' σ)=if id'=id then runK g d f K (.norm σ) else runK g d f K (.exit id' σ):=by
 rw [runK];unfold Out.blk;simp only;split <;> rfl

def condK (g:Cfg) (d f:Nat) (v:AV) (a b:Code) (K:List It) (σ:St):Option Out:=(toBool v).bind fun t=>if t then evk g d f a K σ else evk g d f b K σ
theorem k_cond (x:Operand) (a b:Code) (K:List It) (σ:St):evk g d f (.cond x a b) K σ=condK g d f (opnd σ.env x) a b K σ:=by
 unfold evk condK
 rw [evo_cond]
 cases toBool (opnd σ.env x) with
 | none=>rfl
 | some t=>cases t <;> rfl

def ghoK (g:Cfg) (d f:Nat) (l:List Gho) (ops:Array Oper) (K:List It) (σ:St):Option Out:=(ghoL d l σ).bind fun σ=>opsK g d f ops ops.toList K σ
def behK (l:List Gho) (K:List It):List It:=match l with
 | []=>K
 | l=>.gho l :: K
theorem behK_nil (K:List It):behK [] K=K:=rfl
theorem behK_cons (x:Gho) (l:List Gho) (K:List It):behK (x :: l) K=.gho (x :: l) :: K:=rfl
theorem r_gho (l:List Gho) (K:List It) (σ:St):runK g d f (.gho l :: K) (.norm σ)=(ghoL d l σ).bind fun σ=>runK g d f K (.norm σ):=by rw [runK]
theorem r_behK (l:List Gho) (K:List It) (σ:St):runK g d f (behK l K) (.norm σ)=(ghoL d l σ).bind fun σ=>runK g d f K (.norm σ):=by
 cases l with
 | nil=>rfl
 | cons x l=>rw [behK_cons,r_gho]
theorem k_region (id:Nat) (ops:Array Oper) (draw:Bool) (K:List It) (σ:St):evk g d f (.region id ops draw) K σ=ghoK g d f ((lookK (f,id) g.gho).getD []) ops (behK ((lookK (f,behind id) g.gho).getD []) K) σ:=by
 unfold evk ghoK
 rw [evo_region]
 have hg:∀ i σ,ghoAt g d f i σ=ghoL d ((lookK (f,i) g.gho).getD []) σ:=fun i σ=>by
  unfold ghoAt
  cases lookK (f,i) g.gho <;> rfl
 rw [hg]
 cases ghoL d ((lookK (f,id) g.gho).getD []) σ with
 | none=>rfl
 | some σ1 =>
  simp only [Option.bind_some]
  unfold opsK
  cases opso g d f ops ops.toList σ1 with
  | none=>rfl
  | some σ2 =>
   simp only [Option.bind_some]
   rw [hg,r_behK]
   cases ghoL d ((lookK (f,behind id) g.gho).getD []) σ2 <;> rfl
theorem zhm (x:Gho) (l:List Gho) (ops:Array Oper) (K:List It) (σ:St):ghoK g d f (x :: l) ops K σ=(gho1 d σ x).bind fun σ=>ghoK g d f l ops K σ:=by
 unfold ghoK
 rw [ghoL]
 cases gho1 d σ x <;> rfl
def ghoMK (g:Cfg) (d f:Nat) (F:St→List Gho) (l:List Gho) (ops:Array Oper) (K:List It) (σ:St):Option Out:=(ghoLB d (F σ) σ).bind fun σ=>ghoK g d f l ops K σ
theorem ghoK_many (F:St→List Gho) (l:List Gho) (ops:Array Oper) (K:List It) (σ:St):ghoK g d f (.many F :: l) ops K σ=ghoMK g d f F l ops K σ:=by
 rw [zhm];rfl
def ghoMR (g:Cfg) (d f:Nat) (F:St→List Gho) (l:List Gho) (K:List It) (σ:St):Option Out:=(ghoLB d (F σ) σ).bind fun σ=>(ghoL d l σ).bind fun σ=>runK g d f K (.norm σ)
theorem r_ghoM (F:St→List Gho) (l:List Gho) (K:List It) (σ:St):runK g d f (.gho (.many F :: l) :: K) (.norm σ)=ghoMR g d f F l K σ:=by
 rw [r_gho];unfold ghoMR;rw [ghoL]
 show ((ghoLB d (F σ) σ).bind (ghoL d l)).bind _=_
 cases ghoLB d (F σ) σ <;> rfl
theorem ghoK_thaw (p:Plc) (key sz:Nat) (l:List Gho) (ops:Array Oper) (K:List It) (σ:St):ghoK g d f (.thaw p key sz :: l) ops K σ=(gho1 d σ (.thaw p key sz)).bind fun σ=>ghoK g d f l ops K σ:=zhm ..
theorem ghoK_frz (p:Plc) (l:List Gho) (ops:Array Oper) (K:List It) (σ:St):ghoK g d f (.frz p :: l) ops K σ=(gho1 d σ (.frz p)).bind fun σ=>ghoK g d f l ops K σ:=zhm ..
theorem ghoK_die (p:Plc) (sz:Nat) (l:List Gho) (ops:Array Oper) (K:List It) (σ:St):ghoK g d f (.die p sz :: l) ops K σ=(gho1 d σ (.die p sz)).bind fun σ=>ghoK g d f l ops K σ:=zhm ..
theorem r_gho_thaw (p:Plc) (key sz:Nat) (l:List Gho) (K:List It) (σ:St):runK g d f (.gho (.thaw p key sz :: l) :: K) (.norm σ)=(ghoL d (.thaw p key sz :: l) σ).bind fun σ=>runK g d f K (.norm σ):=r_gho ..
theorem ghoK_share (t:Nat) (l:List Gho) (ops:Array Oper) (K:List It) (σ:St):ghoK g d f (.share t :: l) ops K σ=(gho1 d σ (.share t)).bind fun σ=>ghoK g d f l ops K σ:=zhm ..
theorem ghoK_shareM (k:Key) (l:List Gho) (ops:Array Oper) (K:List It) (σ:St):ghoK g d f (.shareM k :: l) ops K σ=(gho1 d σ (.shareM k)).bind fun σ=>ghoK g d f l ops K σ:=zhm ..
theorem r_gho_shareM (k:Key) (l:List Gho) (K:List It) (σ:St):runK g d f (.gho (.shareM k :: l) :: K) (.norm σ)=(ghoL d (.shareM k :: l) σ).bind fun σ=>runK g d f K (.norm σ):=r_gho ..
theorem r_gho_share (t:Nat) (l:List Gho) (K:List It) (σ:St):runK g d f (.gho (.share t :: l) :: K) (.norm σ)=(ghoL d (.share t :: l) σ).bind fun σ=>runK g d f K (.norm σ):=r_gho ..
theorem r_gho_frz (p:Plc) (l:List Gho) (K:List It) (σ:St):runK g d f (.gho (.frz p :: l) :: K) (.norm σ)=(ghoL d (.frz p :: l) σ).bind fun σ=>runK g d f K (.norm σ):=r_gho ..
theorem r_gho_die (p:Plc) (sz:Nat) (l:List Gho) (K:List It) (σ:St):runK g d f (.gho (.die p sz :: l) :: K) (.norm σ)=(ghoL d (.die p sz :: l) σ).bind fun σ=>runK g d f K (.norm σ):=r_gho ..
theorem ghoK_nil (ops:Array Oper) (K:List It) (σ:St):ghoK g d f [] ops K σ=opsK g d f ops ops.toList K σ:=rfl

theorem o_nil (ops:Array Oper) (K:List It) (σ:St):opsK g d f ops [] K σ=runK g d f K (.norm σ):=by
 unfold opsK;rw [opso_nil];rfl
theorem o_cons (ops:Array Oper) (o:Oper) (l:List Oper) (K:List It) (σ:St):opsK g d f ops (o :: l) K σ=gK g d f ops (wants ops σ.env o) o l K σ:=by
 unfold opsK gK
 rw [opso_cons]
 cases wants ops σ.env o with
 | none=>rfl
 | some w =>
  cases w with
  | true =>
   simp only [Option.bind_some,if_true]
   cases stepo g d f o σ <;> rfl
  | false=>rfl
theorem g_true (ops:Array Oper) (o:Oper) (l:List Oper) (K:List It) (σ:St):gK g d f ops (some true) o l K σ=stK g d f ops o l K σ:=rfl
theorem g_false (ops:Array Oper) (o:Oper) (l:List Oper) (K:List It) (σ:St):gK g d f ops (some false) o l K σ=opsK g d f ops l K { σ with env:=putD σ.env o.dst .skp }:=rfl
theorem st_op (ops:Array Oper) (o:Oper) (l:List Oper) (K:List It) (σ:St) (h:∀ x args argTypes,o.op≠.call { callee:=.value x,args,argTypes }):stK g d f ops o l K σ=putK g d f ops o.dst l K (opE g d f o σ):=by
 unfold stK putK stepo
 have hx:stepX (callo g d) g d f o σ=stepW (callo g d) g d f o σ:=by
  unfold stepX
  split
  ·rename_i ho
   exact absurd ho (h _ _ _)
  ·rfl
 rw [hx,zke h]
 cases opE g d f o σ <;> rfl
theorem putK_some (ops:Array Oper) (dst:Option Nat) (l:List Oper) (K:List It) (v:AV) (σ:St):putK g d f ops dst l K (some (v,σ))=opsK g d f ops l K { σ with env:=putD σ.env dst v }:=rfl

def retK (g:Cfg) (d f:Nat) (ops:Array Oper) (dst:Option Nat) (l:List Oper) (K:List It) (env:Nat→AV) (r:Option (AV × Mem)):Option Out :=
 r.bind fun rm=>opsK g d f ops l K { env:=putD env dst rm.1,mem:=rm.2 }
theorem retK_some (ops:Array Oper) (dst:Option Nat) (l:List Oper) (K:List It) (env:Nat→AV) (r:AV) (m:Mem):retK g d f ops dst l K env (some (r,m))=opsK g d f ops l K { env:=putD env dst r,mem:=m }:=rfl

section
variable (dst:Option Nat) (pos:String) (after:Array Edge) (ty:TypeId) (guard:Option (Nat × Bool)) (t t2:Nat) (ops:Array Oper) (l:List Oper) (K:List It) (σ:St)

theorem s_move (x:Operand) (h:g.tk f dst=false):stK g d f ops { dst,op:=.move x,type:=ty,pos,after,guard } l K σ=opsK g d f ops l K { σ with env:=putD σ.env dst (opnd σ.env x).copy }:=by
 rw [st_op _ _ _ _ _ (by simp)]
 simp [opE,h,putK]
theorem s_assign (x:Operand):stK g d f ops { dst,op:=.assign x,type:=ty,pos,after,guard } l K σ=opsK g d f ops l K { σ with env:=putD (kil σ.env x) dst (opnd σ.env x) }:=by
 rw [st_op _ _ _ _ _ (by simp)]
 rfl
theorem s_bin (op:BinOp) (x y:Operand):stK g d f ops { dst,op:=.binOp op t x y t2,type:=ty,pos,after,guard } l K σ=putK g d f ops dst l K ((binAV g.P op t x y (opnd σ.env x) (opnd σ.env y)).map fun v=>(.one (.s v),σ)):=by
 rw [st_op _ _ _ _ _ (by simp),opE_binOp]
theorem s_un (op:UnOp) (x:Operand):stK g d f ops { dst,op:=.unOp op t x,type:=ty,pos,after,guard } l K σ=putK g d f ops dst l K ((unAV g.P op (opnd σ.env x)).map fun v=>(.one (.s v),σ)):=by
 rw [st_op _ _ _ _ _ (by simp),opE_unOp]

def lenAV (P:Program) (σ:St) (o:Oper) (t:Option TypeId):AV→Option Value
 | .one (.l _ n _)=>t.bind fun t=>(ti P t).bind fun i=>i.elem.bind fun _=>some (.int .i64 n)
 | .one (.bs _ n _)=>t.bind fun t=>(ti P t).bind fun i=>i.elem.bind fun _=>some (.int .i64 n)
 | _=>scalarOp P σ.env o
theorem s_len (x:Operand):stK g d f ops { dst,op:=.call { callee:=.builtin .len,args:=#[x],argTypes:=#[t] },type:=ty,pos,after,guard } l K σ =
 putK g d f ops dst l K ((lenAV g.P σ { dst,op:=.call { callee:=.builtin .len,args:=#[x],argTypes:=#[t] },type:=ty,pos,after,guard } (some t) (opnd σ.env x)).map fun v=>(.one (.s v),σ)):=by
 rw [st_op _ _ _ _ _ (by simp)]
 congr 1
 simp only [opE,List.map_cons,List.map_nil,lenAV]
 cases hx:opnd σ.env x with
 | one c =>
  cases c with
  | l m n cs =>
   simp only [bind]
   cases hti:ti g.P t with
   | none=>simp [hti]
   | some i=>cases he:i.elem <;> simp [hti,he]
  | bs k n sz =>
   simp only [bind]
   cases hti:ti g.P t with
   | none=>simp [hti]
   | some i=>cases he:i.elem <;> simp [hti,he]
  | _=>simp [bind,Option.map_eq_bind,Function.comp_def]
 | _=>simp [bind,Option.map_eq_bind,Function.comp_def]

def ctxCall (F:List AV→Option AV) (args:List AV) (mem:Mem):Option (AV × Mem) :=
 (args.mapM AV.lend).bind fun la=>(F la).bind fun r=>if (r.own? || (r.data? && args.all AV.shr?))=true then some (r,mem) else none

theorem s_callC (k:Nat) (args:Array Operand) (argTypes:Array TypeId) {F:List AV→Option AV} (hro:isRo g f dst=false∧isGive g f dst=false) (h:lookN k g.ctx=some F) :
 stK g d f ops { dst,op:=.call { callee:=.value (.func k),args,argTypes },type:=ty,pos,after,guard } l K σ =
 retK g d f ops dst l K σ.env (ctxCall F (args.toList.map fun y=>(opnd σ.env y).copy) σ.mem):=by
 obtain ⟨hro,hgv⟩:=hro
 unfold stK stepo retK ctxCall
 rw [zha (show isGive g f _=false from hgv),zdo rfl]
 have hc:calleeOf σ.env (.func k)=some (k,[]):=rfl
 rw [hc]
 simp only [Option.bind_some,List.append_nil]
 rw [zmj,h]
 simp only
 cases (args.toList.map fun y=>(opnd σ.env y).copy).mapM AV.lend with
 | none=>rfl
 | some la =>
  simp only [Option.bind_some]
  cases F la with
  | none=>rfl
  | some r =>
   simp only [Option.bind_some]
   split
   ·simp only [Option.bind_some,callEnd,hro,Bool.false_eq_true,if_false]
   ·rfl

def callK (g:Cfg) (d f:Nat) (ops:Array Oper) (dst:Option Nat) (l:List Oper) (K:List It) (σ:St) (args:List AV):Option (Nat × List AV)→Option Out
 | some (k,caps)=>retK g d f ops dst l K σ.env (callo g d k (args ++ caps) σ.mem)
 | none=>none
theorem s_call (x:Operand) (args:Array Operand) (argTypes:Array TypeId) (hro:isRo g f dst=false∧isGive g f dst=false) :
 stK g d f ops { dst,op:=.call { callee:=.value x,args,argTypes },type:=ty,pos,after,guard } l K σ =
 callK g d f ops dst l K σ (args.toList.map fun y=>(opnd σ.env y).copy) (calleeOf σ.env x):=by
 obtain ⟨hro,hgv⟩:=hro
 unfold stK stepo
 rw [zha (show isGive g f _=false from hgv),zdo rfl]
 cases hc:calleeOf σ.env x with
 | none=>rfl
 | some kc =>
  obtain ⟨k,caps⟩:=kc
  simp only [Option.bind_some,callK,retK]
  cases callo g d k (args.toList.map (fun y=>(opnd σ.env y).copy) ++ caps) σ.mem with
  | none=>rfl
  | some rm=>simp only [Option.bind_some,callEnd,hro,Bool.false_eq_true,if_false]
def roK (g:Cfg) (d f:Nat) (ops:Array Oper) (dst:Option Nat) (l:List Oper) (K:List It) (σ:St) (k:Nat) (r:Option (AV × Mem)):Option Out :=
 r.bind fun rm=>if roFn g k then opsK g d f ops l K { env:=putD σ.env dst rm.1,mem:=σ.mem } else none
def callRo (g:Cfg) (d f:Nat) (ops:Array Oper) (dst:Option Nat) (l:List Oper) (K:List It) (σ:St) (args:List AV):Option (Nat × List AV)→Option Out
 | some (k,caps)=>roK g d f ops dst l K σ k (callo g d k (args ++ caps) σ.mem)
 | none=>none
theorem s_callRo (x:Operand) (args:Array Operand) (argTypes:Array TypeId) (hro:isRo g f dst=true∧isGive g f dst=false) :
 stK g d f ops { dst,op:=.call { callee:=.value x,args,argTypes },type:=ty,pos,after,guard } l K σ =
 callRo g d f ops dst l K σ (args.toList.map fun y=>(opnd σ.env y).copy) (calleeOf σ.env x):=by
 obtain ⟨hro,hgv⟩:=hro
 unfold stK stepo
 rw [zha (show isGive g f _=false from hgv),zdo rfl]
 cases hc:calleeOf σ.env x with
 | none=>rfl
 | some kc =>
  obtain ⟨k,caps⟩:=kc
  simp only [Option.bind_some,callRo,roK]
  cases callo g d k (args.toList.map (fun y=>(opnd σ.env y).copy) ++ caps) σ.mem with
  | none=>rfl
  | some rm =>
   simp only [Option.bind_some,callEnd,hro,if_true]
   cases roFn g k <;> rfl

theorem s_pick (x y z:Operand):stK g d f ops { dst,op:=.pick x y z,type:=ty,pos,after,guard } l K σ=putK g d f ops dst l K ((toBool (opnd σ.env x)).map fun b=>((opnd σ.env (if b then y else z)).copy,σ)):=by
 rw [st_op _ _ _ _ _ (by simp)]
 simp only [opE,bind]
 cases toBool (opnd σ.env x) <;> rfl
theorem s_extract (x:Operand) (i:Nat):stK g d f ops { dst,op:=.extract x i,type:=ty,pos,after,guard } l K σ=putK g d f ops dst l K (opE g d f { dst,op:=.extract x i,type:=ty,pos,after,guard } σ):=st_op _ _ _ _ _ (by simp)
theorem s_alloc (e:TypeId):stK g d f ops { dst,op:=.alloc e,type:=ty,pos,after,guard } l K σ=putK g d f ops dst l K (opE g d f { dst,op:=.alloc e,type:=ty,pos,after,guard } σ):=st_op _ _ _ _ _ (by simp)
theorem s_box (e:TypeId) (x:Operand):stK g d f ops { dst,op:=.box e x,type:=ty,pos,after,guard } l K σ=putK g d f ops dst l K (opE g d f { dst,op:=.box e x,type:=ty,pos,after,guard } σ):=st_op _ _ _ _ _ (by simp)
theorem s_load (a:Operand):stK g d f ops { dst,op:=.load t a,type:=ty,pos,after,guard } l K σ=putK g d f ops dst l K (opE g d f { dst,op:=.load t a,type:=ty,pos,after,guard } σ):=st_op _ _ _ _ _ (by simp)
theorem s_store (a x:Operand):stK g d f ops { dst,op:=.store t a x,type:=ty,pos,after,guard } l K σ=putK g d f ops dst l K (opE g d f { dst,op:=.store t a x,type:=ty,pos,after,guard } σ):=st_op _ _ _ _ _ (by simp)
theorem s_nilCheck (x:Operand):stK g d f ops { dst,op:=.nilCheck x,type:=ty,pos,after,guard } l K σ=putK g d f ops dst l K (opE g d f { dst,op:=.nilCheck x,type:=ty,pos,after,guard } σ):=st_op _ _ _ _ _ (by simp)
theorem s_fieldAddr (x:Operand) (i:Nat):stK g d f ops { dst,op:=.fieldAddr t x i,type:=ty,pos,after,guard } l K σ=putK g d f ops dst l K (opE g d f { dst,op:=.fieldAddr t x i,type:=ty,pos,after,guard } σ):=st_op _ _ _ _ _ (by simp)
theorem s_field (x:Operand) (i:Nat):stK g d f ops { dst,op:=.field t x i,type:=ty,pos,after,guard } l K σ=putK g d f ops dst l K (opE g d f { dst,op:=.field t x i,type:=ty,pos,after,guard } σ):=st_op _ _ _ _ _ (by simp)
theorem s_indexAddr (x i:Operand):stK g d f ops { dst,op:=.indexAddr t x i,type:=ty,pos,after,guard } l K σ=putK g d f ops dst l K (opE g d f { dst,op:=.indexAddr t x i,type:=ty,pos,after,guard } σ):=st_op _ _ _ _ _ (by simp)
theorem s_build (ps:Array (Nat × Operand)):stK g d f ops { dst,op:=.build t ps,type:=ty,pos,after,guard } l K σ=putK g d f ops dst l K (opE g d f { dst,op:=.build t ps,type:=ty,pos,after,guard } σ):=st_op _ _ _ _ _ (by simp)
theorem s_buildSlice (n:Nat) (ps:Array (Nat × Operand)):stK g d f ops { dst,op:=.buildSlice t n ps,type:=ty,pos,after,guard } l K σ=putK g d f ops dst l K (opE g d f { dst,op:=.buildSlice t n ps,type:=ty,pos,after,guard } σ):=st_op _ _ _ _ _ (by simp)
theorem s_slice (x:Operand) (lo hi:Option Operand):stK g d f ops { dst,op:=.slice t x lo hi none,type:=ty,pos,after,guard } l K σ=putK g d f ops dst l K (opE g d f { dst,op:=.slice t x lo hi none,type:=ty,pos,after,guard } σ):=st_op _ _ _ _ _ (by simp)
theorem s_lookup (x y:Operand) (b:Bool):stK g d f ops { dst,op:=.lookup t x y b,type:=ty,pos,after,guard } l K σ=putK g d f ops dst l K (opE g d f { dst,op:=.lookup t x y b,type:=ty,pos,after,guard } σ):=st_op _ _ _ _ _ (by simp)
theorem s_makeFunc (fn:Fn) (fi ca:Array Operand):stK g d f ops { dst,op:=.makeFunc fn fi ca,type:=ty,pos,after,guard } l K σ=putK g d f ops dst l K (opE g d f { dst,op:=.makeFunc fn fi ca,type:=ty,pos,after,guard } σ):=st_op _ _ _ _ _ (by simp)
theorem s_makeSlice (x y:Operand):stK g d f ops { dst,op:=.makeSlice t x y,type:=ty,pos,after,guard } l K σ=putK g d f ops dst l K (opE g d f { dst,op:=.makeSlice t x y,type:=ty,pos,after,guard } σ):=st_op _ _ _ _ _ (by simp)
theorem s_append (args:Array Operand) (argTypes:Array TypeId):stK g d f ops { dst,op:=.call { callee:=.builtin .append,args,argTypes },type:=ty,pos,after,guard } l K σ=putK g d f ops dst l K (opE g d f { dst,op:=.call { callee:=.builtin .append,args,argTypes },type:=ty,pos,after,guard } σ):=st_op _ _ _ _ _ (by simp)

end
def callX (g:Cfg) (d f:Nat) (ops:Array Oper) (dst:Option Nat) (l:List Oper) (K:List It) (σ:St) (k:Nat) (args:List AV):Option (List AV→Option AV)→Option Out
 | some F=>retK g d f ops dst l K σ.env (ctxCall F args σ.mem)
 | none=>retK g d f ops dst l K σ.env (callo g d k args σ.mem)
theorem callX_some (dst:Option Nat) (ops:Array Oper) (l:List Oper) (K:List It) (σ:St) (k:Nat) (args:List AV) (F:List AV→Option AV):callX g d f ops dst l K σ k args (some F)=retK g d f ops dst l K σ.env (ctxCall F args σ.mem):=rfl
theorem callX_none (dst:Option Nat) (ops:Array Oper) (l:List Oper) (K:List It) (σ:St) (k:Nat) (args:List AV):callX g d f ops dst l K σ k args none=retK g d f ops dst l K σ.env (callo g d k args σ.mem):=rfl
theorem s_callF (dst:Option Nat) (pos:String) (after:Array Edge) (ty:TypeId) (guard:Option (Nat × Bool)) (ops:Array Oper) (l:List Oper) (K:List It) (σ:St) (k:Nat) (args:Array Operand) (argTypes:Array TypeId) (hro:isRo g f dst=false∧isGive g f dst=false) :
 stK g d f ops { dst,op:=.call { callee:=.value (.func k),args,argTypes },type:=ty,pos,after,guard } l K σ=callX g d f ops dst l K σ k (args.toList.map fun y=>(opnd σ.env y).copy) (lookN k g.ctx):=by
 cases h:lookN k g.ctx with
 | some F=>exact s_callC (hro:=hro) (h:=h) ..
 | none =>
  rw [s_call (hro:=hro)]
  have hc:calleeOf σ.env (.func k)=some (k,[]):=rfl
  rw [hc]
  simp [callK,callX]

def giveX (g:Cfg) (d f:Nat) (ops:Array Oper) (dst:Option Nat) (l:List Oper) (K:List It) (σ:St) (k:Nat) (args:List Operand) (az_:List AV):Option (List AV→Option AV)→Option Out
 | some F=>retK g d f ops dst l K (gaveEnv args σ.env) ((F az_).map fun r=>(r,σ.killB.mem))
 | none=>retK g d f ops dst l K (gaveEnv args σ.env) (if (lookN k g.ctx).isSome then none else bxCall (callo g d) g d dst k az_ σ.killB.mem)
def giveV (g:Cfg) (d f:Nat) (ops:Array Oper) (dst:Option Nat) (l:List Oper) (K:List It) (σ:St) (args:List Operand) (az_:List AV):Option (Nat × List AV)→Option Out
 | some (k,caps)=>retK g d f ops dst l K (gaveEnv args σ.env) (match lookN k g.octx with
  | some F=>if caps.isEmpty then (F az_).map fun r=>(r,σ.killB.mem) else none
  | none=>if (lookN k g.ctx).isSome then none else bxCall (callo g d) g d dst k (az_ ++ caps) σ.killB.mem)
 | none=>none
theorem giveX_some (ops:Array Oper) (dst:Option Nat) (l:List Oper) (K:List It) (σ:St) (k:Nat) (args:List Operand) (az_:List AV) (F:List AV→Option AV):giveX g d f ops dst l K σ k args az_ (some F)=retK g d f ops dst l K (gaveEnv args σ.env) ((F az_).map fun r=>(r,σ.killB.mem)):=rfl
theorem giveV_some (ops:Array Oper) (dst:Option Nat) (l:List Oper) (K:List It) (σ:St) (k:Nat) (caps:List AV) (args:List Operand) (az_:List AV) (h1:lookN k g.octx=none) (h2:lookN k g.ctx=none) (h3:lookN k g.bctx=none) (h4:lookN k g.pctx=none) :
 giveV g d f ops dst l K σ args az_ (some (k,caps))=retK g d f ops dst l K (gaveEnv args σ.env) (callo g d k (az_ ++ caps) (markMem (g.deep.contains k) d σ.killB.mem)):=by
 simp only [giveV,h1,h2,Option.isSome_none,Bool.false_eq_true,if_false,bxCall,h3,h4]
 rfl
theorem s_give (dst:Option Nat) (pos:String) (after:Array Edge) (ty:TypeId) (guard:Option (Nat × Bool)) (ops:Array Oper) (l:List Oper) (K:List It) (σ:St) (k:Nat) (args:Array Operand) (argTypes:Array TypeId) (hgv:isGive g f dst=true)
 (hnd:nodupA args.toList=true) :
 stK g d f ops { dst,op:=.call { callee:=.value (.func k),args,argTypes },type:=ty,pos,after,guard } l K σ=giveX g d f ops dst l K σ k args.toList (args.toList.map fun y=>(opnd σ.env y).killB) (lookN k g.octx):=by
 unfold stK stepo
 have hx:stepX (callo g d) g d f { dst,op:=.call { callee:=.value (.func k),args,argTypes },type:=ty,pos,after,guard } σ=giveStep (callo g d) g d args.toList dst σ (some (k,[])):=by
  unfold stepX
  simp only [hgv,if_true]
  rfl
 rw [hx]
 unfold giveStep
 simp only [hnd,if_true]
 cases ho:lookN k g.octx with
 | some F =>
  simp only [giveX,retK,List.isEmpty_nil,if_true]
  cases F (args.toList.map fun y=>(opnd σ.env y).killB) <;> rfl
 | none =>
  simp only [giveX,retK,List.append_nil]
  cases hc:(lookN k g.ctx).isSome with
  | true=>rfl
  | false =>
   simp only [Bool.false_eq_true,if_false]
   cases bxCall (callo g d) g d dst k (args.toList.map fun y=>(opnd σ.env y).killB) σ.killB.mem <;> rfl
theorem s_giveT (dst:Option Nat) (pos:String) (after:Array Edge) (ty:TypeId) (guard:Option (Nat × Bool)) (ops:Array Oper) (l:List Oper) (K:List It) (σ:St) (t:Nat) (args:Array Operand) (argTypes:Array TypeId) (hgv:isGive g f dst=true)
 (hnd:nodupA args.toList=true) :
 stK g d f ops { dst,op:=.call { callee:=.value (.tmp t),args,argTypes },type:=ty,pos,after,guard } l K σ=giveV g d f ops dst l K σ args.toList (args.toList.map fun y=>(opnd σ.env y).killB) (calleeOf σ.env (.tmp t)):=by
 unfold stK stepo
 have hx:stepX (callo g d) g d f { dst,op:=.call { callee:=.value (.tmp t),args,argTypes },type:=ty,pos,after,guard } σ=giveStep (callo g d) g d args.toList dst σ (calleeOf σ.env (.tmp t)):=by
  unfold stepX
  simp only [hgv,if_true]
 rw [hx]
 cases hc:calleeOf σ.env (.tmp t) with
 | none=>rfl
 | some kc =>
  obtain ⟨k,caps⟩:=kc
  unfold giveStep
  simp only [hnd,if_true]
  cases ho:lookN k g.octx with
  | some F =>
   simp only [giveV,retK,ho]
   cases hce:caps.isEmpty with
   | false=>rfl
   | true =>
    simp only [if_true]
    cases F (args.toList.map fun y=>(opnd σ.env y).killB) <;> rfl
  | none =>
   simp only [giveV,retK,ho]
   cases hc:(lookN k g.ctx).isSome with
   | true=>rfl
   | false =>
    simp only [Bool.false_eq_true,if_false]
    cases bxCall (callo g d) g d dst k ((args.toList.map fun y=>(opnd σ.env y).killB) ++ caps) σ.killB.mem <;> rfl

def retR (P:Program) (d:Nat) (l:List ResultVar) (σ:St):Option AV :=
 (l.mapM (rsrc P σ.env)).bind fun rs =>
  if !(rs.all fun | .bx k _ _ _=>k.1 == d | _=>true) then none else
  match rs with
  | [r]=>RSrc.val σ r
  | rs=>if nodupR rs then (rs.mapM fun r=>(RSrc.val σ r).bind tupPart).map .tu else none

def valK (d:Nat) (mem:Mem):Option AV→Option (AV × Mem)
 | some r=>some (r.kill (fun k=>d < k.1),memKill (fun k=>d < k.1) mem)
 | none=>none
def endK (P:Program) (d:Nat) (l:List ResultVar):Option St→Option (AV × Mem)
 | some σ=>valK d σ.mem (retR P (d+1) l σ)
 | none=>none
def finK (P:Program) (d:Nat) (l:List ResultVar) (gl:List Gho):Option Out→Option (AV × Mem)
 | some (.norm σ)=>endK P d l (ghoL (d+1) gl σ)
 | some (.ret σ)=>endK P d l (ghoL (d+1) gl σ)
 | _=>none
theorem fin_ret (P:Program) (d:Nat) (l:List ResultVar) (gl:List Gho) (σ:St):finK P d l gl (some (.ret σ))=endK P d l (ghoL (d+1) gl σ):=rfl
theorem fin_norm (P:Program) (d:Nat) (l:List ResultVar) (gl:List Gho) (σ:St):finK P d l gl (some (.norm σ))=endK P d l (ghoL (d+1) gl σ):=rfl
theorem fin_if (P:Program) (d:Nat) (l:List ResultVar) (gl:List Gho) (c:Prop) [Decidable c] (x y:Option Out):finK P d l gl (if c then x else y)=if c then finK P d l gl x else finK P d l gl y:=by split <;> rfl
theorem end_some (P:Program) (d:Nat) (l:List ResultVar) (σ:St):endK P d l (some σ)=valK d σ.mem (retR P (d+1) l σ):=rfl
theorem val_some (d:Nat) (mem:Mem) (r:AV):valK d mem (some r)=some (r.kill (fun k=>d < k.1),memKill (fun k=>d < k.1) mem):=rfl
theorem retR_tmp (P:Program) (d t:Nat) (σ:St):retR P d [.tmp t] σ=some (σ.env t):=rfl
theorem mem0_kill (p:Key→Bool):memKill p mem0=mem0:=by
 funext k
 unfold memKill mem0
 split <;> rfl

theorem zkw {P:Program} {f:Nat} {args:List AV} {mem:Mem} {fn:Func} {c:Code} (l:List ResultVar) (h0:lookN f g.ctx=none) (hP:g.P=P) (h1:P.funcs[f]?=some fn) (h2:fn.body=some c) (h3:fnOK g f fn=true) (h4:args.length≤fn.ntmps)
 (h5:fn.results.toList=l) :
 callo g d f args mem=finK P d l ((lookK (f,atEnd) g.gho).getD []) (evk g (d+1) f c [] { env:=fun t=>(args[t]?).getD .dead,mem }):=by
 subst hP
 rw [callo_fn h0 h1 h2 h3 h4,zqp]
 have hgho:∀ σ,ghoAt g (d+1) f atEnd σ=ghoL (d+1) ((lookK (f,atEnd) g.gho).getD []) σ:=by
  intro σ
  unfold ghoAt
  cases lookK (f,atEnd) g.gho <;> rfl
 have hret:∀ σ,retVal g.P (d+1) fn σ=retR g.P (d+1) l σ:=by
  intro σ
  subst h5
  rfl
 have key:∀ σ,((ghoAt g (d+1) f atEnd σ).bind fun σ=>(retVal g.P (d+1) fn σ).bind fun r=>some (r.kill (fun k=>d < k.1),memKill (fun k=>d < k.1) σ.mem))=endK g.P d l (ghoL (d+1) ((lookK (f,atEnd) g.gho).getD []) σ):=by
  intro σ
  rw [hgho]
  cases ghoL (d+1) ((lookK (f,atEnd) g.gho).getD []) σ with
  | none=>rfl
  | some σ1 =>
   simp only [Option.bind_some,hret,endK]
   cases retR g.P (d+1) l σ1 <;> rfl
 cases evk g (d+1) f c [] { env:=fun t=>(args[t]?).getD .dead,mem } with
 | none=>rfl
 | some o =>
  cases o with
  | norm σ=>exact key σ
  | ret σ=>exact key σ
  | exit id σ=>rfl

@[simp] theorem copy_own:Md.own.copy=.bor:=rfl
@[simp] theorem copy_top:Md.top.copy=.bor:=rfl
@[simp] theorem copy_shr:Md.shr.copy=.shr:=rfl
@[simp] theorem copy_bor:Md.bor.copy=.bor:=rfl
@[simp] theorem elem_own:Md.own.elem=.own:=rfl
@[simp] theorem elem_top:Md.top.elem=.shr:=rfl
@[simp] theorem elem_shr:Md.shr.elem=.shr:=rfl
@[simp] theorem elem_bor:Md.bor.elem=.bor:=rfl
theorem awayB_nil {g:Cfg} {d f:Nat} {dst:Option Nat} {k:Key} (h:g.away=[]):awayB g d f dst k=false:=by
 unfold awayB
 rw [h]
 cases dst <;> rfl
theorem lateB_nil {g:Cfg} {d f:Nat} {a:Operand} {k:Key} (h:g.away=[]):lateB g d f a k=false:=by
 unfold lateB
 rw [h]
 cases a <;> rfl
def awayL (l:List (Nat × Nat × Nat)) (d f:Nat) (dst:Option Nat) (k:Key):Bool:=match dst with
 | some t=>l.any fun x=>x.1 == f && (x.2.1 == t && (decide (k=(d,x.2.2)) || (x.2.2 == farM && decide (k.1≠d∨adoptK≤k.2))))
 | none=>false
def lateL (l:List (Nat × Nat × Nat)) (d f:Nat) (a:Operand) (k:Key):Bool:=match a with
 | .tmp b=>l.any fun x=>x.1 == f && (x.2.2 == b && decide (k≠(d,b)))
 | _=>false
attribute [simp] awayB_nil lateB_nil awayL lateL
attribute [simp] k_seq k_block k_skip k_exit k_ret r_nil r_norm r_exit r_ret r_preR r_blkN r_blkR r_blkE k_cond k_region ghoK_nil ghoK_thaw ghoK_frz ghoK_die ghoK_share ghoK_shareM r_gho_shareM ghoK_many behK_nil behK_cons behind r_gho_thaw r_gho_frz r_gho_die r_gho_share r_ghoM o_nil o_cons g_true g_false
 s_move s_assign s_bin s_un s_callF callX_some s_pick s_extract s_alloc s_box s_load s_store s_nilCheck s_fieldAddr s_field s_indexAddr s_build s_buildSlice s_slice s_lookup lookAV s_makeFunc s_makeSlice
 putK_some retK_some upd_get envL_cons envL_nil wants wantV lookK putD kil opnd AV.copy C.copy AV.ofValue C.ofValue scal
 fin_ret fin_norm fin_if end_some val_some retR_tmp ghoL AV.kill C.kill Cfg.tk Ev.toInt Ev.toBool mkAV C.ofD AV.cells C.isDead opE

end Go.Ev

