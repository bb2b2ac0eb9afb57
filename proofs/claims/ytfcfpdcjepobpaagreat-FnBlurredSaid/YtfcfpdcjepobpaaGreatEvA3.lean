import Derived.Test.YtfcfpdcjepobpaaGreatEvA2
set_option linter.unusedSimpArgs false
set_option linter.unusedVariables false
set_option linter.unnecessarySimpa false
noncomputable section
namespace Go.Ev

def Enters (P : Program) (f : Nat) : Prop := ∃ fn, P.funcs[f]? = some fn ∧ fn.body.isSome = true ∧ (fn.name == "runtime.NumGoroutine") = false

structure MemOK (d:Nat) (G:Gh) (mem:Mem) (w:World):Prop where
 cells:∀ k cs,mem k=some cs→cs≠[]→∃ arr e,w.heap[G.β k]?=some (.cells arr e (0,0))∧G.own (G.β k)=some (.box k)∧arr.size=G.cap k∧RCs w G (.cell k) [] 0 cs (arr.toList.take cs.length)
 live:∀ k,G.live k ↔ (mem k).isSome=true
 dep:∀ k,G.live k→k.1≤d
 wf:∀ b t,G.own b=some t→b < w.heap.size
 wfb:∀ b k,G.own b=some (.box k)→G.live k∧G.β k=b
 wfc:∀ b k p,G.own b=some (.at (.cell k) p)→G.live k
 age:∀ b,G.age b≤d
 fut:∀ b,w.heap.size≤b→G.age b=d
 aged:∀ b t,G.own b=some t→t.dep d≤G.age b

theorem Sim.memOK {d N:Nat} {G:Gh} {σ:St} {tm:Array Value} {w:World} (h:Sim d N G σ tm w):MemOK d G σ.mem w:=⟨h.mem,h.live,h.dep,h.wf,h.wfb,h.wfc,h.age,h.fut,h.aged⟩
theorem MemOK.sim {d N:Nat} {G:Gh} {σ:St} {tm:Array Value} {w:World} (h:MemOK d G σ.mem w) (hz:tm.size=N) (he:∀ t,RA w G (.slot d t) (σ.env t) (tm.getD t undef)) (hj:G.live (d,deepK)→∀ b,G.age b+1≠d):Sim d N G σ tm w :=
 ⟨hz,he,h.cells,h.live,h.dep,h.wf,h.wfb,h.wfc,h.age,h.fut,h.aged,hj⟩
theorem jump_call {d:Nat} {G G':Gh} {w w':World} (hj:G.live (d,deepK)→∀ b,G.age b+1≠d) (ha:∀ b,w.heap.size≤b→d≤G.age b) (hF:Frm (d+1) G w G' w'):G'.live (d,deepK)→∀ b,G'.age b+1≠d:=fun hl b=>by
 have h0:=hj ((hF.back _ (Nat.lt_succ_self d) hl).resolve_right (show ¬ adoptK≤deepK by decide)) b
 by_cases hb:d≤G.age b
 ·have:=hF.up b (by omega)
  omega
 ·have hlt:b < w.heap.size:=by
   rcases Nat.lt_or_ge b w.heap.size with h | h
   ·exact h
   ·exact absurd (ha b h) hb
  rw [hF.age b hlt (by omega)]
  exact h0

def ArgsOK (w:World) (G:Gh) (args:List AV) (vals:Array Value):Prop :=
 vals.size=args.length∧∀ (i:Nat) x,args[i]?=some x→∃ v,vals[i]?=some v∧∀ d t,RA w G (.slot d t) x v

def CallOK (P:Program) (d f:Nat) (args:List AV) (mem mem':Mem) (r:AV):Prop :=
 Enters P f∧∀ (G:Gh) (w:World) (vals:Array Value),ArgsOK w G args vals→MemOK d G mem w →
  Calls P f vals w fun e w'=>∃ v G',e=.returned v∧RA w' G' .ret r v∧MemOK d G' mem' w'∧Frm (d+1) G w G' w'

def dropT (p:Key→Bool) (e:Nat):Tag→Tag
 | .box k=>if p k then .foreign else .box k
 | .at (.cell k) q=>if p k then .foreign else .at (.cell k) q
 | .at (.slot d' t) q=>if e < d' then .foreign else .at (.slot d' t) q
 | t=>t

def Gh.drop (G:Gh) (p:Key→Bool) (e:Nat):Gh:={ G with own:=fun b=>(G.own b).map (dropT p e),live:=fun k=>G.live k∧p k=false,age:=fun b=>min (G.age b) e }

theorem zhf {G:Gh} {p:Key→Bool} {e b:Nat}:(G.drop p e).own b=(G.own b).map (dropT p e):=rfl

theorem drop_at {G:Gh} {p:Key→Bool} {e b:Nat} {o:Ow} {q:List Nat} (ho:∀ k,o=.cell k→p k=false) (hs:∀ d' t,o=.slot d' t→d'≤e) (h:G.own b=some (.at o q)):(G.drop p e).own b=some (.at o q):=by
 rw [zhf,h,Option.map_some]
 cases o with
 | cell k=>simp [dropT,ho k rfl]
 | slot d' t=>have:=hs d' t rfl;simp [dropT];omega
 | ret=>rfl

theorem zqr {G:Gh} {p:Key→Bool} {e b:Nat} {k:Key} (hk:(G.drop p e).own b=some (.box k)):G.own b=some (.box k)∧p k=false:=by
 rw [zhf] at hk
 cases hb:G.own b with
 | none=>rw [hb] at hk;cases hk
 | some t =>
  rw [hb] at hk
  simp only [Option.map_some,Option.some.injEq] at hk
  cases t with
  | foreign=>cases hk
  | box k' =>
   simp only [dropT] at hk
   split at hk
   ·cases hk
   ·rename_i hp;cases hk;exact ⟨rfl,by simpa using hp⟩
  | «at» o p' =>
   cases o with
   | cell k'=>simp only [dropT] at hk;split at hk <;> cases hk
   | slot d' t=>simp only [dropT] at hk;split at hk <;> cases hk
   | ret=>cases hk

theorem zje (G:Gh) (w:World) (p:Key→Bool) (e:Nat) (o:Ow) (q:List Nat) (ho:∀ k,o=.cell k→p k=false) (hs:∀ d' t,o=.slot d' t→d'≤e):Hands w G w (G.drop p e) o q o q p where
 tag b r _ h:=⟨drop_at ho hs h,rfl,rfl⟩
 nil b _ h:=by rw [zhf,h];rfl
 nilh _ _ _:=rfl
 box b _ h k hk:=h k (zqr hk).1
 use _ _ _:=Nat.le_refl _
 cell _ _ _ _ _:=rfl
 live k hk hp:=⟨⟨hk,hp⟩,rfl,rfl⟩

theorem zqq (d:Nat) (G:Gh) (w:World) (p:Key→Bool) (e:Nat) (hp:∀ k,p k=true→d≤k.1) (he:d≤e+1):Frm d G w (G.drop p e) w where
 size:=Nat.le_refl _
 kept:=Kept.refl w
 same b _ ht:=⟨rfl,by
  rw [zhf]
  cases hb:G.own b with
  | none=>rfl
  | some t =>
   rw [hb] at ht
   cases t with
   | foreign=>rfl
   | box k=>exact absurd trivial ht
   | «at» o q =>
    cases o with
    | cell k=>exact absurd trivial ht
    | slot d' t =>
     have:¬ d≤d':=ht
     simp only [Option.map_some,dropT]
     rw [if_neg (by omega)]
    | ret=>rfl,rfl⟩
 age b _ ha:=by show min (G.age b) e=G.age b;omega
 box b _ _ h k hk:=h k (zqr hk).1
 use _ _ _:=Nat.le_refl _
 cell _ _ _ _ _ _:=rfl
 live k hk hd:=⟨⟨hk,by
  cases hpk:p k with
  | false=>rfl
  | true=>have:=hp k hpk;omega⟩,rfl,rfl⟩
 back k _ hk:=.inl hk.1
 up b hb:=by show d≤min (G.age b) e+1;omega

theorem MemOK.drop {d e:Nat} {G:Gh} {mem:Mem} {w:World} (h:MemOK d G mem w) (p:Key→Bool) (hed:e≤d) (hd:∀ k,G.live k→p k=false→k.1≤e):MemOK e (G.drop p e) (memKill p mem) w where
 cells k cs hk hn2:=by
  unfold memKill at hk
  split at hk
  ·cases hk
  ·rename_i hp
   cases hm:mem k with
   | none=>rw [hm] at hk;cases hk
   | some cs0 =>
    rw [hm] at hk
    simp only [Option.map_some,Option.some.injEq] at hk
    subst hk
    obtain ⟨arr,el,h1,h2,h2c,h3⟩:=h.cells k cs0 hm (by rintro rfl;exact hn2 rfl)
    have hp':p k=false:=by simpa using hp
    refine ⟨arr,el,h1,?_,h2c,?_⟩
    ·rw [zhf]
     show Option.map (dropT p e) (G.own (G.β k))=_
     rw [h2,Option.map_some]
     simp [dropT,hp']
    ·rw [List.length_map]
     exact (zje G w p e (.cell k) [] (fun k' hk'=>by cases hk';exact hp') (fun _ _ hh=>by cases hh)).rcs h3
 live k:=by
  show (G.live k∧p k=false) ↔ _
  rw [h.live k]
  unfold memKill
  cases p k <;> simp
 dep k hk:=hd k hk.1 hk.2
 wf b t hb:=by
  rw [zhf] at hb
  cases ho:G.own b with
  | none=>rw [ho] at hb;cases hb
  | some t0=>exact h.wf b t0 ho
 wfb b k hb:=by
  obtain ⟨h1,h2⟩:=zqr hb
  obtain ⟨a1,a2⟩:=h.wfb b k h1
  exact ⟨⟨a1,h2⟩,a2⟩
 wfc b k q hb:=by
  rw [zhf] at hb
  cases ho:G.own b with
  | none=>rw [ho] at hb;cases hb
  | some t0 =>
   rw [ho] at hb
   simp only [Option.map_some,Option.some.injEq] at hb
   cases t0 with
   | foreign=>cases hb
   | box k'=>simp only [dropT] at hb;split at hb <;> cases hb
   | «at» o q' =>
    cases o with
    | cell k' =>
     simp only [dropT] at hb
     split at hb
     ·cases hb
     ·rename_i hp
      cases hb
      exact ⟨h.wfc _ _ _ ho,by simpa using hp⟩
    | slot _ _=>simp only [dropT] at hb;split at hb <;> cases hb
    | ret=>cases hb
 age b:=Nat.min_le_right _ _
 fut b hb:=by show min (G.age b) e=e;rw [h.fut b hb];omega
 aged b t hb:=by
  rw [zhf] at hb
  cases ho:G.own b with
  | none=>rw [ho] at hb;cases hb
  | some t0 =>
   rw [ho] at hb
   simp only [Option.map_some,Option.some.injEq] at hb
   have ha:=h.aged b t0 ho
   show t.dep e≤min (G.age b) e
   subst hb
   cases t0 with
   | foreign=>exact Nat.zero_le _
   | box k =>
    simp only [dropT]
    split
    ·exact Nat.zero_le _
    ·rename_i hp
     have:=hd k (h.wfb b k ho).1 (by simpa using hp)
     have ha:k.1≤G.age b:=ha
     show k.1≤_
     omega
   | «at» o q =>
    cases o with
    | cell k =>
     simp only [dropT]
     split
     ·exact Nat.zero_le _
     ·rename_i hp
      have:=hd k (h.wfc b k q ho) (by simpa using hp)
      have ha:k.1≤G.age b:=ha
      show k.1≤_
      omega
    | slot d' t' =>
     simp only [dropT]
     split
     ·exact Nat.zero_le _
     ·have ha:d'≤G.age b:=ha
      show d'≤_
      omega
    | ret =>
     have ha:d≤G.age b:=ha
     show e≤_
     omega

theorem Sim.restrict {d N:Nat} {G:Gh} {σ:St} {tm:Array Value} {w:World} (h:Sim d N G σ tm w) (k:List Nat × List Nat) :
 ∃ G',Sim d N G' (restrict d σ k) tm w∧Frm d G w G' w:=by
 let p:Key→Bool:=fun x=>x.1 == d && k.2.contains x.2
 have hpd:∀ k,p k=true→d≤k.1:=by
  intro k hk
  simp only [p,Bool.and_eq_true,beq_iff_eq] at hk
  omega
 refine ⟨G.drop p d,(h.memOK.drop p (Nat.le_refl d) (fun k' hk _=>h.dep k' hk)).sim h.sz (fun t=>?_) (fun hl b=>by show min (G.age b) d+1≠d;have h1:=h.jump hl.1 b;have h2:=h.age b;omega),zqq d G w p d hpd (Nat.le_succ d)⟩
 show RA w _ _ (if t∈k.1 then (σ.env t).kill p else .dead) _
 split
 ·exact (zje G w p d (.slot d t) [] (by simp) (fun d' t' hh=>by cases hh;exact Nat.le_refl _)).ra (h.env t)
 ·exact trivial

def rrun (tm:Array Value):ResultVar→Sem Value
 | .tmp t=>pure (tm.getD t undef)
 | .cell a t=>do loadVar t (← asAddr (tm.getD a undef))

def tupOf:List Value→Value
 | [v]=>v
 | vs=>.tuple vs.toArray

theorem zjq {P:Program} {fn:Func} {tm:Array Value} {w:World} {vs:List Value} (hl:vs.length=fn.results.toList.length)
 (h:∀ (i:Nat) r v,fn.results.toList[i]?=some r→vs[i]?=some v→(rrun tm r).run P w=.ok v w):(results fn tm).run P w=.ok (tupOf vs) w:=by
 have hm:∀ (l:List ResultVar) (vs:List Value),vs.length=l.length→(∀ (i:Nat) r v,l[i]?=some r→vs[i]?=some v→(rrun tm r).run P w=.ok v w)→(l.mapM (rrun tm)).run P w=Result.ok vs w:=by
  intro l
  induction l with
  | nil=>intro vs hl _;have:vs=[]:=List.length_eq_zero_iff.1 hl;subst this;rfl
  | cons r l ih =>
   intro vs hl h
   cases vs with
   | nil=>simp at hl
   | cons v vs =>
    have h0:=h 0 r v rfl rfl
    have h1:=ih vs (by simpa using hl) fun i r v hr hv=>h (i+1) r v hr hv
    simp only [List.mapM_cons,Sem.run_bind,Sem.run_pure,h0,Result.andThen_ok,h1]
 have hr:results fn tm=(do let vs ← fn.results.mapM (rrun tm);pure (if h:vs.size=1 then vs[0] else .tuple vs)):=by
  rfl
 rw [hr,Array.mapM_eq_mapM_toList]
 simp only [Sem.run_bind,Sem.run_map]
 show ((((fn.results.toList.mapM (rrun tm)).run P w).andThen fun a w'=>Result.ok a.toArray w').andThen fun a w'=>Sem.run P (pure (if h:a.size=1 then a[0] else Value.tuple a)) w')=_
 rw [hm _ vs hl h]
 simp only [Result.andThen_ok,Sem.run_pure]
 cases vs with
 | nil=>rfl
 | cons v vs =>
  cases vs with
  | nil=>simp [tupOf]
  | cons v2 vs=>simp [tupOf]

def resT (d:Nat) (s:Nat→List Nat→Option (List Nat)) (c:Key→Nat→List Nat→Option (List Nat)):Tag→Tag
 | .at (.slot d' t) q=>if d'=d then (match s t q with | some q'=>.at .ret q' | none=>.at (.slot d' t) q) else .at (.slot d' t) q
 | .at (.cell k) (x :: q)=>if k.1=d then (match c k x q with | some q'=>.at .ret q' | none=>.at (.cell k) (x :: q)) else .at (.cell k) (x :: q)
 | x=>x

theorem resT_ok {d:Nat} (s:Nat→List Nat→Option (List Nat)) (c:Key→Nat→List Nat→Option (List Nat)):RenOK d (resT d s c) where
 box _:=rfl
 foreign:=rfl
 at_ x p:=by
  cases x with
  | ret=>exact ⟨_,_,rfl⟩
  | cell k' =>
   cases p with
   | nil=>exact ⟨_,_,rfl⟩
   | cons x q =>
    simp only [resT]
    split
    ·split <;> exact ⟨_,_,rfl⟩
    ·exact ⟨_,_,rfl⟩
  | slot d' t' =>
   simp only [resT]
   split
   ·split <;> exact ⟨_,_,rfl⟩
   ·exact ⟨_,_,rfl⟩
 keep x hx:=by
  cases x with
  | foreign=>rfl
  | box k=>rfl
  | «at» o p =>
   cases o with
   | cell k'=>exact absurd trivial hx
   | ret=>rfl
   | slot d' t' =>
    simp only [resT]
    rw [if_neg]
    rintro rfl
    exact hx (Nat.le_refl _)
 dp x p:=by
  cases x with
  | ret=>exact Nat.le_refl _
  | cell k' =>
   cases p with
   | nil=>exact Nat.le_refl _
   | cons x q =>
    simp only [resT]
    split
    ·rename_i hk
     split
     ·show d≤k'.1;omega
     ·exact Nat.le_refl _
    ·exact Nat.le_refl _
  | slot d' t' =>
   simp only [resT]
   split
   ·rename_i hk
    split
    ·show d≤d';omega
    ·exact Nat.le_refl _
   ·exact Nat.le_refl _

theorem resT_cell {d:Nat} {s:Nat→List Nat→Option (List Nat)} {c:Key→Nat→List Nat→Option (List Nat)} {o:Ow} {p:List Nat} {k:Key} {q:List Nat} (h:resT d s c (.at o p)=.at (.cell k) q):∃ k',o=.cell k'∧k'=k:=by
 cases o with
 | ret=>simp [resT] at h
 | cell k' =>
  cases p with
  | nil=>simp only [resT,Tag.at.injEq,Ow.cell.injEq] at h;exact ⟨k',rfl,h.1⟩
  | cons x r =>
   simp only [resT] at h
   split at h
   ·split at h
    ·cases h
    ·simp only [Tag.at.injEq,Ow.cell.injEq] at h;exact ⟨k',rfl,h.1⟩
   ·simp only [Tag.at.injEq,Ow.cell.injEq] at h;exact ⟨k',rfl,h.1⟩
 | slot d' t =>
  simp only [resT] at h
  split at h
  ·split at h <;> cases h
  ·cases h

def rtS (env:Nat→AV):Nat→List RSrc→Nat→List Nat→Option (List Nat)
 | _,[],_,_=>none
 | i,.sl t :: r,t',q=>if t'=t then some (if isAgV (env t) then i :: q else i :: 0 :: q) else rtS env (i+1) r t' q
 | i,_ :: r,t',q=>rtS env (i+1) r t' q
def rtC:Nat→List RSrc→Key→Nat→List Nat→Option (List Nat)
 | _,[],_,_,_=>none
 | i,.bx k off size _ :: r,k',x,q=>if k'.2=k.2 then (if off≤x∧x < off+size then some (i :: (x - off) :: q) else none) else rtC (i+1) r k' x q
 | i,_ :: r,k',x,q=>rtC (i+1) r k' x q

def slotsR (l:List RSrc):List Nat:=l.filterMap fun | .sl t=>some t | _=>none
def keysR (l:List RSrc):List Nat:=l.filterMap fun | .bx k _ _ _=>some k.2 | _=>none

theorem rtS_get (env:Nat→AV):∀ (l:List RSrc) (i j t:Nat) (q:List Nat),nodup (slotsR l)=true→l[j]?=some (.sl t)→rtS env i l t q=some (if isAgV (env t) then (i+j) :: q else (i+j) :: 0 :: q)
 | [],i,j,t,q,_,h=>by simp at h
 | r0 :: l,i,0,t,q,_,h=>by simp at h;subst h;simp [rtS]
 | r0 :: l,i,j+1,t,q,hn,h=>by
  rw [List.getElem?_cons_succ] at h
  have hmem:t∈slotsR l:=List.mem_filterMap.2 ⟨_,List.mem_of_getElem? h,rfl⟩
  cases r0 with
  | sl t0 =>
   have hn':nodup (t0 :: slotsR l)=true:=hn
   simp only [nodup,Bool.and_eq_true,Bool.not_eq_true',List.contains_eq_mem,decide_eq_false_iff_not] at hn'
   have hne:t≠t0:=fun e=>hn'.1 (e ▸ hmem)
   simp only [rtS,hne,if_false]
   rw [rtS_get env l (i+1) j t q hn'.2 h,show i+1+j=i+(j+1) by omega]
  | bx k off size agg =>
   simp only [rtS]
   rw [rtS_get env l (i+1) j t q hn h,show i+1+j=i+(j+1) by omega]

theorem rtC_get:∀ (l:List RSrc) (i j:Nat) (k:Key) (off size:Nat) (agg:Bool) (x:Nat) (q:List Nat),nodup (keysR l)=true→l[j]?=some (.bx k off size agg)→off≤x→x < off+size→rtC i l k x q=some ((i+j) :: (x - off) :: q)
 | [],i,j,k,off,size,agg,x,q,_,h,_,_=>by simp at h
 | r0 :: l,i,0,k,off,size,agg,x,q,_,h,h1,h2=>by simp at h;subst h;simp [rtC,h1,h2]
 | r0 :: l,i,j+1,k,off,size,agg,x,q,hn,h,h1,h2=>by
  rw [List.getElem?_cons_succ] at h
  have hmem:k.2∈keysR l:=List.mem_filterMap.2 ⟨_,List.mem_of_getElem? h,rfl⟩
  cases r0 with
  | sl t0 =>
   simp only [rtC]
   rw [rtC_get l (i+1) j k off size agg x q hn h h1 h2,show i+1+j=i+(j+1) by omega]
  | bx k0 off0 size0 agg0 =>
   have hn':nodup (k0.2 :: keysR l)=true:=hn
   simp only [nodup,Bool.and_eq_true,Bool.not_eq_true',List.contains_eq_mem,decide_eq_false_iff_not] at hn'
   have hne:k.2≠k0.2:=fun e=>hn'.1 (e ▸ hmem)
   simp only [rtC,hne,if_false]
   rw [rtC_get l (i+1) j k off size agg x q hn'.2 h h1 h2,show i+1+j=i+(j+1) by omega]

theorem zkk {α β:Type} {F:α→Option β}:∀ {l:List α} {r:List β},l.mapM F=some r→r.length=l.length∧∀ (i:Nat) y,r[i]?=some y→∃ x,l[i]?=some x∧F x=some y
 | [],r,h=>by simp at h;subst h;exact ⟨rfl,fun i y hi=>by simp at hi⟩
 | a :: l,r,h=>by
  rw [List.mapM_cons] at h
  simp only [bind,Option.bind_eq_some_iff,pure,Option.some.injEq] at h
  obtain ⟨y0,hy0,r',hr',rfl⟩:=h
  obtain ⟨h1,h2⟩:=zkk hr'
  refine ⟨by simp [h1],fun i y hi=>?_⟩
  cases i with
  | zero=>simp at hi;subst hi;exact ⟨a,rfl,hy0⟩
  | succ i=>exact h2 i y hi

theorem zic {α:Type} {Q:Nat→α→Prop}:∀ (n:Nat),(∀ i,i < n→∃ v,Q i v)→∃ vs:List α,vs.length=n∧∀ (i:Nat) v,vs[i]?=some v→Q i v
 | 0,_=>⟨[],rfl,fun i v h=>by simp at h⟩
 | n+1,h=>by
  obtain ⟨vs,h1,h2⟩:=zic n fun i hi=>h i (Nat.lt_succ_of_lt hi)
  obtain ⟨v,hv⟩:=h n (Nat.lt_succ_self n)
  refine ⟨vs ++ [v],by simp [h1],fun i u hu=>?_⟩
  rw [List.getElem?_append] at hu
  split at hu
  ·exact h2 i u hu
  ·rename_i hge
   have hi:i - vs.length=0:=by
    rcases Nat.eq_zero_or_pos (i - vs.length) with h0 | h0
    ·exact h0
    ·rw [List.getElem?_eq_none (by simp;omega)] at hu;cases hu
   rw [hi] at hu
   simp at hu
   subst hu
   have:i=n:=by omega
   rw [this];exact hv

def RSrc.Reads (σ:St) (G:Gh) (w:World) (tm:Array Value) (x:AV) (v:Value):RSrc→Prop
 | .sl t=>x=σ.env t∧v=tm.getD t undef
 | .bx k off size agg=>∃ sg vs,mkAV agg sg=some x∧sg.length=size∧RCs w G (.cell k) [] off sg vs∧v=(if agg then .agg vs.toArray else vs[0]?.getD undef)

theorem Sim.rsrc {P:Program} {d N:Nat} {G:Gh} {σ:St} {tm:Array Value} {w:World} (h:Sim d N G σ tm w) {rv:ResultVar} {r:RSrc} (hr:Ev.rsrc P σ.env rv=some r) {x:AV} (hx:RSrc.val σ r=some x) :
 ∃ v,(rrun tm rv).run P w=.ok v w∧r.Reads σ G w tm x v:=by
 cases rv with
 | tmp t =>
  simp only [Ev.rsrc,Option.some.injEq] at hr
  subst hr
  simp only [RSrc.val,Option.some.injEq] at hx
  exact ⟨_,rfl,hx.symm,rfl⟩
 | cell a t =>
  simp only [Ev.rsrc] at hr
  rw [Option.bind_eq_some_iff] at hr
  obtain ⟨i,hi,hr⟩:=hr
  split at hr
  ·rename_i k off hp
   simp only [Option.some.injEq] at hr
   subst hr
   simp only [RSrc.val] at hx
   rw [Option.bind_eq_some_iff] at hx
   obtain ⟨cs,hcs,hx⟩:=hx
   rw [Option.bind_eq_some_iff] at hx
   obtain ⟨sg,hsg,hx⟩:=hx
   have hv:=h.env a
   rw [hp] at hv
   obtain ⟨_,hv⟩:=hv
   obtain ⟨hle,hsl,_⟩:=zhx hsg
   obtain ⟨us,hlen,hcl,hseg⟩:=Sim.vals (a:=⟨tm,[]⟩) h hcs hsg
   rw [Nat.zero_add] at hseg
   have hrun:=zfi (w:=w) (P:=P) hi (G.β k) off _ hlen hcl (fun hag=>by rw [← hsl];exact zki hx hag)
   refine ⟨_,?_,sg,_,hx,hsl,hseg,rfl⟩
   simp only [rrun,hv]
   simpa [Instr.loadAt,Instr.sureAddr,asAddr] using hrun
  ·cases hr

theorem Sim.returns {P:Program} {d N:Nat} {G:Gh} {σ:St} {tm:Array Value} {w:World} (h:Sim (d+1) N G σ tm w) {fn:Func} {r:AV} (hr:retVal P (d+1) fn σ=some r) :
 ∃ v G',(results fn tm).run P w=.ok v w∧RA w G' .ret (r.kill fun k=>d < k.1) v∧MemOK d G' (memKill (fun k=>d < k.1) σ.mem) w∧Frm (d+1) G w G' w:=by
 unfold retVal at hr
 rw [Option.bind_eq_some_iff] at hr
 obtain ⟨rs,hrs,hr⟩:=hr
 split at hr
 ·cases hr
 rename_i hdep
 obtain ⟨hlen,hget⟩:=zkk hrs
 have hkd:∀ (i:Nat) k off size agg,rs[i]?=some (.bx k off size agg)→k.1=d+1:=by
  intro i k off size agg hi
  simp only [Bool.not_eq_true',Bool.not_eq_false] at hdep
  rw [List.all_eq_true] at hdep
  have:=hdep _ (List.mem_of_getElem? hi)
  simpa using this
 have hpd:∀ k:Key,(decide (d < k.1))=true→d+1≤k.1:=fun k hk=>by have:=of_decide_eq_true hk;omega

 have fin:∀ (φ:Tag→Tag),RenOK (d+1) φ→(∀ k,k.1≠d+1→∀ q,φ (.at (.cell k) q)=.at (.cell k) q)→(∀ o p k q,φ (.at o p)=.at (.cell k) q→∃ k',o=.cell k'∧k'=k)→∀ v,RA w (Ev.ren G φ) .ret r v→(results fn tm).run P w=.ok v w →
  ∃ v G',(results fn tm).run P w=.ok v w∧RA w G' .ret (r.kill fun k=>d < k.1) v∧MemOK d G' (memKill (fun k=>d < k.1) σ.mem) w∧Frm (d+1) G w G' w:=by
  intro φ hφ hc hnew v hv hrun
  have hS:=h.ren hφ (fun _=>.dead) (fun k=>if d < k.1 then (σ.mem k).map (List.map fun _=>C.dead) else σ.mem k) (fun _=>.inl rfl) (fun k=>?_) (fun o p k q hq=>.inl (hnew o p k q hq))
  ·have hmk:memKill (fun k=>d < k.1) (fun k=>if d < k.1 then (σ.mem k).map (List.map fun _=>C.dead) else σ.mem k)=memKill (fun k=>d < k.1) σ.mem:=by
    funext k
    unfold memKill
    by_cases hk:d < k.1 <;> simp [hk]
   have hM:=hS.memOK.drop (e:=d) (fun k=>d < k.1) (Nat.le_succ d) (fun k _ hk=>by simpa using hk)
   rw [hmk] at hM
   exact ⟨v,(Ev.ren G φ).drop (fun k=>d < k.1) d,hrun,(zje _ w _ d .ret [] (by simp) (fun _ _ hh=>by cases hh)).ra hv,hM,(hφ.frm G w).trans (zqq (d+1) _ w _ d hpd (Nat.le_refl _))⟩
  ·cases hm:σ.mem k with
   | none=>left;exact ⟨by simp,rfl⟩
   | some cs =>
    right
    by_cases hk:d < k.1
    ·refine ⟨cs,cs.map fun _=>C.dead,rfl,by simp [hk],by simp,fun i c' hc'=>.inl ?_⟩
     rw [List.getElem?_map] at hc'
     cases hq:cs[i]? with
     | none=>rw [hq] at hc';cases hc'
     | some c0=>rw [hq] at hc';cases hc';rfl
    ·exact ⟨cs,cs,rfl,by simp [hk],rfl,fun i c' hc'=>.inr ⟨hc',fun q=>hc k (by omega) _⟩⟩
 have tuple:∀ vs0,rs.mapM (fun r=>(RSrc.val σ r).bind tupPart)=some vs0→nodupR rs=true→rs.length≠1→r=.tu vs0 →
  ∃ v G',(results fn tm).run P w=.ok v w∧RA w G' .ret (r.kill fun k=>d < k.1) v∧MemOK d G' (memKill (fun k=>d < k.1) σ.mem) w∧Frm (d+1) G w G' w:=by
  intro vs0 hvs hnd hne hrr
  subst hrr
  simp only [nodupR,Bool.and_eq_true] at hnd
  have hn1:nodup (slotsR rs)=true:=hnd.1
  have hn2:nodup (keysR rs)=true:=hnd.2
  obtain ⟨hl,hg⟩:=zkk hvs
  have hφ:=resT_ok (d:=d+1) (rtS σ.env 0 rs) (rtC 0 rs)

  have hval:∀ i,i < rs.length→∃ v,(∀ rv,fn.results.toList[i]?=some rv→(rrun tm rv).run P w=.ok v w)∧∀ b cs,vs0[i]?=some (b,cs) →
   if b=true then ∃ xs:Array Value,v=.agg xs∧RCs w (Ev.ren G (resT (d+1) (rtS σ.env 0 rs) (rtC 0 rs))) .ret [i] 0 cs xs.toList else RCs w (Ev.ren G (resT (d+1) (rtS σ.env 0 rs) (rtC 0 rs))) .ret [i] 0 cs [v]:=by
   intro i hi
   have hri:rs[i]?=some rs[i]:=List.getElem?_eq_getElem hi
   obtain ⟨rv,hrv,hsrc⟩:=hget i _ hri
   have hvi:vs0[i]?=some vs0[i]:=List.getElem?_eq_getElem (by omega)
   obtain ⟨r',hr',hpart⟩:=hg i _ hvi
   rw [hri] at hr'
   cases hr'
   rw [Option.bind_eq_some_iff] at hpart
   obtain ⟨x,hx,hpart⟩:=hpart
   obtain ⟨v,hrun,hread⟩:=h.rsrc hsrc hx
   refine ⟨v,fun rv' hrv'=>by rw [hrv] at hrv';cases hrv';exact hrun,fun b cs hbc=>?_⟩
   rw [hvi] at hbc
   have hbc:=Option.some.inj hbc
   rw [hbc] at hpart
   cases hrc:rs[i] with
   | sl t =>
    rw [hrc] at hread hri
    obtain ⟨rfl,rfl⟩:=hread
    have hra:=h.env t
    have htab:=fun q=>rtS_get σ.env rs 0 i t q hn1 hri
    simp only [Nat.zero_add] at htab
    cases hxx:σ.env t with
    | one c =>
     rw [hxx] at hpart hra htab
     simp only [tupPart,Option.some.injEq,Prod.mk.injEq] at hpart
     obtain ⟨rfl,rfl⟩:=hpart
     simp only [Bool.false_eq_true,if_false]
     refine ⟨rfl,fun j c' hj=>?_⟩
     cases j with
     | succ j=>simp at hj
     | zero =>
      simp at hj
      subst hj
      refine ⟨_,rfl,(hφ.hands G w (o:=.slot (d+1) t) (o':=.ret) (p:=[]) (p':=[i] ++ [0+0]) fun q=>?_).rc0 hra⟩
      simp [resT,htab,isAgV]
    | ag l =>
     rw [hxx] at hpart hra htab
     simp only [tupPart,Option.some.injEq,Prod.mk.injEq] at hpart
     obtain ⟨rfl,rfl⟩:=hpart
     simp only [if_true]
     obtain ⟨xs,hxs,hr⟩:=hra
     refine ⟨xs,hxs,hr.1,fun j c' hj=>?_⟩
     obtain ⟨y,hy,hrc'⟩:=hr.2 j c' hj
     refine ⟨y,hy,(hφ.hands G w (o:=.slot (d+1) t) (o':=.ret) (p:=[] ++ [0+j]) (p':=[i] ++ [0+j]) fun q=>?_).rc0 hrc'⟩
     simp [resT,htab,isAgV]
    | tu l=>rw [hxx] at hpart;simp [tupPart] at hpart
   | bx k off size agg =>
    rw [hrc] at hread hri
    obtain ⟨sg,vs,hmk,hsl,hrcs,rfl⟩:=hread
    have hk1:=hkd i k off size agg hri
    have hmove:∀ j c y,sg[j]?=some c→RC w G (.cell k) ([] ++ [off+j]) c y→RC w (Ev.ren G (resT (d+1) (rtS σ.env 0 rs) (rtC 0 rs))) .ret ([i] ++ [0+j]) c y:=by
     intro j c y hj hrc'
     have hjl:j < sg.length:=(List.getElem?_eq_some_iff.1 hj).1
     refine (hφ.hands G w (o:=.cell k) (o':=.ret) (p:=[] ++ [off+j]) (p':=[i] ++ [0+j]) fun q=>?_).rc0 hrc'
     have:=rtC_get rs 0 i k off size agg (off+j) q hn2 hri (by omega) (by omega)
     simp only [List.nil_append,List.cons_append,resT,hk1,if_true]
     rw [this]
     simp
    unfold mkAV at hmk
    cases agg with
    | true =>
     simp only [if_true,Option.some.injEq] at hmk
     subst hmk
     simp only [tupPart,Option.some.injEq,Prod.mk.injEq] at hpart
     obtain ⟨rfl,rfl⟩:=hpart
     simp only [if_true]
     refine ⟨vs.toArray,rfl,hrcs.1,fun j c hj=>?_⟩
     obtain ⟨y,hy,hr⟩:=hrcs.2 j c hj
     exact ⟨y,hy,hmove j c y hj hr⟩
    | false =>
     simp only [Bool.false_eq_true,if_false] at hmk
     split at hmk
     ·rename_i c
      simp only [Option.some.injEq] at hmk
      subst hmk
      simp only [tupPart,Option.some.injEq,Prod.mk.injEq] at hpart
      obtain ⟨rfl,rfl⟩:=hpart
      simp only [Bool.false_eq_true,if_false]
      obtain ⟨y,rfl,hr⟩:=zid hrcs
      refine ⟨rfl,fun j c' hj=>?_⟩
      cases j with
      | succ j=>simp at hj
      | zero =>
       simp at hj
       subst hj
       exact ⟨y,rfl,hmove 0 _ y rfl (by simpa using hr)⟩
     ·cases hmk
  have hvals:∃ vals:List Value,vals.length=rs.length∧∀ i v,vals[i]?=some v→(∀ rv,fn.results.toList[i]?=some rv→(rrun tm rv).run P w=.ok v w)∧∀ b cs,vs0[i]?=some (b,cs) →
   if b=true then ∃ xs:Array Value,v=.agg xs∧RCs w (Ev.ren G (resT (d+1) (rtS σ.env 0 rs) (rtC 0 rs))) .ret [i] 0 cs xs.toList else RCs w (Ev.ren G (resT (d+1) (rtS σ.env 0 rs) (rtC 0 rs))) .ret [i] 0 cs [v]:=by
   exact zic rs.length hval
  obtain ⟨vals,hvl,hvv⟩:=hvals
  have hrun:=zjq (P:=P) (fn:=fn) (tm:=tm) (w:=w) (vs:=vals) (by rw [hvl,hlen]) fun i rv v hrv hv=>(hvv i v hv).1 rv hrv
  have hmatch:tupOf vals=.tuple vals.toArray:=by
   cases vals with
   | nil=>rfl
   | cons v vals =>
    cases vals with
    | nil=>simp at hvl;omega
    | cons _ _=>rfl
  rw [hmatch] at hrun
  refine fin _ hφ (fun k hk q=>?_) (fun o p k q hq=>resT_cell hq) _ ?_ hrun
  ·cases q with
   | nil=>rfl
   | cons x q=>simp [resT,hk]
  ·refine ⟨_,rfl,by simp [hvl,hl],fun i b cs hi=>?_⟩
   have hil:i < vals.length:=by rw [hvl,← hl];exact (List.getElem?_eq_some_iff.1 hi).1
   have hvi:vals[i]?=some vals[i]:=List.getElem?_eq_getElem hil
   exact ⟨_,by rw [List.getElem?_toArray];exact hvi,(hvv i _ hvi).2 b cs hi⟩
 cases rs with
 | nil =>
  have hr':r=.tu []:=by
   simp only [nodupR,List.filterMap_nil,nodup,Bool.and_self,if_true,List.mapM_nil,pure,Option.map_some,Option.some.injEq] at hr;exact hr.symm
  exact tuple [] rfl rfl (by simp) hr'
 | cons r1 rs =>
  cases rs with
  | nil =>
   simp only at hr
   obtain ⟨rv,hrv,hsrc⟩:=hget 0 r1 rfl
   obtain ⟨v,hrun,hread⟩:=h.rsrc hsrc hr
   have hrun':=zjq (P:=P) (fn:=fn) (tm:=tm) (w:=w) (vs:=[v]) (by simpa using hlen) fun i rv' v' hrv' hv'=>by
    cases i with
    | zero=>rw [hrv] at hrv';cases hrv';cases hv';exact hrun
    | succ i=>simp at hv'
   cases r1 with
   | sl t =>
    obtain ⟨rfl,rfl⟩:=hread
    refine fin (mvT (.slot (d+1) t) .ret) (mvT_ok (Nat.le_refl _) (Nat.le_refl _)) (fun k _ q=>by simp [mvT]) (fun o p k q hq=>?_) _ ?_ hrun'
    ·simp only [mvT] at hq
     split at hq
     ·cases hq
     ·simp only [Tag.at.injEq] at hq;exact ⟨k,hq.1,rfl⟩
    ·exact ((mvT_ok (d:=d+1) (o:=.slot (d+1) t) (o':=.ret) (Nat.le_refl _) (Nat.le_refl _)).hands G w (p:=[]) (p':=[]) fun q=>by simp [mvT]).ra0 (h.env t)
   | bx k off size agg =>
    obtain ⟨sg,vs,hmk,hsl,hrcs,rfl⟩:=hread
    have hk1:=hkd 0 k off size agg rfl
    have hφ:=cellT_ok (d:=d+1) k off size .ret agg (by rw [hk1];exact Nat.le_refl _)
    refine fin _ hφ (fun k2 hk2 q=>?_) (fun o p k2 q hq=>?_) _ ?_ hrun'
    ·cases q with
     | nil=>rfl
     | cons x q =>
      simp only [cellT]
      rw [if_neg]
      rintro ⟨rfl,_⟩
      exact hk2 hk1
    ·cases o with
     | cell k3 =>
      cases p with
      | nil=>simp only [cellT,Tag.at.injEq,Ow.cell.injEq] at hq;exact ⟨k3,rfl,hq.1⟩
      | cons j q' =>
       simp only [cellT] at hq
       split at hq
       ·cases hq
       ·simp only [Tag.at.injEq,Ow.cell.injEq] at hq;exact ⟨k3,rfl,hq.1⟩
     | slot a b=>simp [cellT] at hq
     | ret=>simp [cellT] at hq
    ·refine (znj hmk (vs:=vs) (fun hag=>⟨hrcs.1,fun j c hj=>?_⟩) (fun hag c hcs=>?_)).1
     ·obtain ⟨y,hy,hr⟩:=hrcs.2 j c hj
      have hjl:j < sg.length:=(List.getElem?_eq_some_iff.1 hj).1
      refine ⟨y,hy,(hφ.hands G w (o:=.cell k) (o':=.ret) (p:=[] ++ [off+j]) (p':=[] ++ [0+j]) fun q=>?_).rc0 hr⟩
      simp only [List.nil_append,List.cons_append,cellT,hag,Nat.zero_add]
      rw [if_pos ⟨trivial,by omega,by omega⟩]
      simp
     ·subst hcs
      obtain ⟨y,hy,hr⟩:=zid hrcs
      refine ⟨y,hy,(hφ.hands G w (o:=.cell k) (o':=.ret) (p:=[] ++ [off]) (p':=[]) fun q=>?_).rc0 hr⟩
      have h1:size=1:=by rw [← hsl];rfl
      simp only [List.nil_append,List.cons_append,cellT,hag]
      rw [if_pos ⟨trivial,by omega,by omega⟩]
      simp
  | cons r2 rs =>
   simp only at hr
   split at hr
   ·rename_i hn
    cases hm:List.mapM (fun r=>(RSrc.val σ r).bind tupPart) (r1 :: r2 :: rs) with
    | none=>rw [hm] at hr;simp at hr
    | some vs0 =>
     rw [hm] at hr
     simp only [Option.map_some,Option.some.injEq] at hr
     exact tuple vs0 hm hn (by simp) hr.symm
   ·cases hr

end Go.Ev


namespace Go.Ev

def stepG (S:Oper→St→Option St) (ops:Array Oper) (o:Oper) (σ:St):Option St :=
 (wants ops σ.env o).bind fun want=>if want then S o σ else some { σ with env:=putD σ.env o.dst .skp }

def arun (S:Oper→St→Option St) (ops:Array Oper):List Oper→St→Option St
 | [],σ=>some σ
 | o :: r,σ=>(stepG S ops o σ).bind (arun S ops r)

theorem stepX_mono (g:Cfg) (n d f:Nat) (o:Oper) (σ:St):Le (stepX (callN g n d) g d f o σ) (stepX (callN g (n+1) d) g d f o σ):=zpm fun _ _ _=>zgj g d _ _ _ n

theorem stepX_up (g:Cfg) (d f:Nat) (o:Oper) (σ:St) {m n:Nat} (h:m≤n):Le (stepX (callN g m d) g d f o σ) (stepX (callN g n d) g d f o σ):=by
 induction h with
 | refl=>exact Le.refl _
 | step _ ih=>exact fun a ha=>stepX_mono _ _ _ _ _ _ a (ih a ha)

theorem zkz (g:Cfg) (d f:Nat) (ops:Array Oper):∀ (l:List Oper) (n N:Nat) (σ σ':St),n≤N+1→evOps g n d f ops l σ=some σ'→arun (stepX (callN g N d) g d f) ops l σ=some σ'
 | [],n,N,σ,σ',_,h=>by
  cases n with
  | zero=>rw [evOps] at h;cases h
  | succ n=>rw [evOps] at h;exact h
 | o :: r,n,N,σ,σ',hn,h=>by
  cases n with
  | zero=>rw [evOps] at h;cases h
  | succ n =>
   rw [evOps] at h
   rw [Option.bind_eq_some_iff] at h
   obtain ⟨want,hw,h⟩:=h
   rw [Option.bind_eq_some_iff] at h
   obtain ⟨σ1,h1,h2⟩:=h
   simp only [arun,stepG,hw,Option.bind_some]
   have hs:(if want=true then stepX (callN g N d) g d f o σ else some { σ with env:=putD σ.env o.dst .skp })=some σ1:=by
    cases want with
    | true=>exact stepX_up g d f o σ (by omega) σ1 h1
    | false=>exact h1
   rw [hs,Option.bind_some]
   exact zkz g d f ops r n N σ1 σ' (by omega) h2

def StepOK (P:Program) (d N:Nat) (o:Oper) (σ σ':St):Prop :=
 ∀ (G:Gh) (w:World) (a:Act) (K:Act→World→Prop) (Q:Exit→Act→World→Prop),Sim d N G σ a.tmps w →
  (∀ G' a' w',Sim d N G' σ' a'.tmps w'→Frm d G w G' w'→a'.defers=a.defers→K a' w')→o.wp P a w K Q

theorem OpOK.step {P:Program} {d N:Nat} {o:Oper} {σ σ1:St} {v:AV} (h:∀ (G:Gh) (w:World) (a:Act),Sim d N G σ a.tmps w→OpOK P d N G w a o σ1 v) :
 StepOK P d N o σ { σ1 with env:=putD σ1.env o.dst v }:=by
 intro G w a K Q hS hK
 obtain ⟨r,w',G',hr,hF,hS'⟩:=h G w a hS
 have hdef:(a.put o.dst r).defers=a.defers:=by cases o.dst <;> rfl
 unfold Oper.wp
 rcases hr with hr | ⟨hr,rfl⟩
 ·rw [hr];exact hK G' _ _ hS' hF hdef
 ·rw [hr];exact hK G' _ _ hS' hF hdef

theorem wants_ok {ops:Array Oper} {o:Oper} {d N:Nat} {G:Gh} {σ:St} {w:World} {a:Act} (h:Sim d N G σ a.tmps w) {b:Bool} (hw:wants ops σ.env o=some b):Region.wanted o (yielded ops a.tmps)=b:=by
 unfold wants at hw
 unfold Region.wanted
 cases hg:o.guard with
 | none=>rw [hg] at hw;simp only [Option.some.injEq] at hw;exact hw
 | some jb =>
  obtain ⟨j,want⟩:=jb
  rw [hg] at hw
  simp only [Option.bind_eq_some_iff] at hw
  obtain ⟨t,ht,hc⟩:=hw
  dsimp only
  unfold yielded
  have ht':(ops[j]?).bind (·.dst)=some t:=by simpa [Option.bind_eq_some_iff] using ht
  rw [ht']
  dsimp only [Option.bind_some]
  have hE:=h.env t
  unfold wantV at hc
  split at hc
  ·rename_i hsk
   rw [hsk] at hE
   obtain ⟨vs,hv,_,_⟩:=hE
   cases hc
   rw [Array.getD_eq_getD_getElem?] at hv
   cases hq:a.tmps[t]? with
   | none=>rfl
   | some u =>
    rw [hq] at hv
    have hv:u=.tuple vs:=hv
    subst hv
    rfl
  rw [Option.bind_eq_some_iff] at hc
  obtain ⟨c,hc,hcb⟩:=hc
  obtain rfl:(c == want)=b:=by simpa using hcb
  have hv:=zmn hc hE
  have hval:a.tmps[t]?=some (.bool c):=by
   rw [Array.getD_eq_getD_getElem?] at hv
   cases hq:a.tmps[t]? with
   | none=>rw [hq] at hv;cases hv
   | some u=>rw [hq] at hv;rw [← hv];rfl
  rw [hval]
  cases c <;> cases want <;> rfl

def postC (d N:Nat) (G:Gh) (w:World) (out:Out):Exit→Act→World→Prop
 | .normal,a',w'=>a'.defers=[]∧∃ σ' G',out=.norm σ'∧Sim d N G' σ' a'.tmps w'∧Frm d G w G' w'
 | .exit id,a',w'=>a'.defers=[]∧∃ σ' G',out=.exit id σ'∧Sim d N G' σ' a'.tmps w'∧Frm d G w G' w'
 | .ret,a',w'=>a'.defers=[]∧∃ σ' G',out=.ret σ'∧Sim d N G' σ' a'.tmps w'∧Frm d G w G' w'
 | _,_,_=>False

theorem postC.trans {d N:Nat} {G G1:Gh} {w w1:World} {out:Out} (hF:Frm d G w G1 w1):∀ e a' w',postC d N G1 w1 out e a' w'→postC d N G w out e a' w':=by
 intro e a' w' h
 cases e <;> first
  | exact h
  | (obtain ⟨h0,σ',G',h1,h2,h3⟩:=h;exact ⟨h0,σ',G',h1,h2,hF.trans h3⟩)

theorem zml {P:Program} {d N:Nat} {ops:Array Oper} {Q:Exit→Act→World→Prop} {S:Oper→St→Option St} (hS:∀ o∈ops.toList,∀ σ σ',S o σ=some σ'→StepOK P d N o σ σ')
 (hd:∀ o∈ops.toList,o.dst.all (· < N)=true):∀ (k i:Nat),i+k=ops.size→∀ (G:Gh) (w:World) (a:Act) (σ σ':St),Sim d N G σ a.tmps w→arun S ops (ops.toList.drop i) σ=some σ' →
 (∀ G' a' w',Sim d N G' σ' a'.tmps w'→Frm d G w G' w'→a'.defers=a.defers→Q .normal a' w')→wpOps P ops Q (List.range' i k) a w
 | 0,i,hi,G,w,a,σ,σ',hs,hr,hQ=>by
  rw [List.drop_eq_nil_of_le (by rw [Array.length_toList];omega)] at hr
  simp only [arun,Option.some.injEq] at hr
  subst hr
  exact hQ G a w hs (Frm.refl _ _ _) rfl
 | k+1,i,hi,G,w,a,σ,σ',hs,hr,hQ=>by
  have hlt:i < ops.toList.length:=by rw [Array.length_toList];omega
  rw [List.drop_eq_getElem_cons hlt] at hr
  simp only [arun,Option.bind_eq_some_iff] at hr
  obtain ⟨σ1,h1,h2⟩:=hr
  unfold stepG at h1
  rw [Option.bind_eq_some_iff] at h1
  obtain ⟨want,hw,h1⟩:=h1
  rw [List.range'_succ,wpOps_cons]
  have ho:ops[i]?=some ops.toList[i]:=by rw [← Array.getElem?_toList];exact List.getElem?_eq_getElem hlt
  unfold wpOp
  rw [ho]
  simp only
  rw [wants_ok hs hw]
  have hmem:=List.getElem_mem hlt
  cases want with
  | true =>
   simp only [if_true] at h1 ⊢
   left
   refine hS _ hmem σ σ1 h1 G w a _ _ hs fun G' a' w' hs' hF' hdf=>?_
   exact zml hS hd k (i+1) (by omega) G' w' a' σ1 σ' hs' h2 fun G2 a2 w2 hs2 hF2 hdf2=>hQ G2 a2 w2 hs2 (hF'.trans hF2) (hdf2.trans hdf)
  | false =>
   simp only [Bool.false_eq_true,if_false,Option.some.injEq] at h1 ⊢
   subst h1
   have hs':=hs.put (hd _ hmem) (v:=.skp) (r:=undef) fun _ _=>RA_skp
   refine zml hS hd k (i+1) (by omega) G w _ _ σ' hs' h2 fun G2 a2 w2 hs2 hF2 hdf2=>hQ G2 a2 w2 hs2 hF2 (hdf2.trans ?_)
   cases ops.toList[i].dst <;> rfl

theorem zol {P:Program} {w:World} {a:Act} {f:Nat} {x:Operand} {args:Array Operand} {argTypes:Array TypeId} {dst:Option Nat} {ty:TypeId} {pos:String} {after:Array Edge} {guard:Option (Nat × Bool)}
 {caps:Array Value} (hx:a.eval x=.func (.func f) #[] caps) (hE:Enters P f) :
 (execOp a.eval { dst,op:=.call { callee:=.value x,args,argTypes },type:=ty,pos,after,guard }).run P w=.ok (.enter f (args.map a.eval ++ caps)) w:=by
 obtain ⟨fn,h1,h2,h3⟩:=hE
 have h4:¬ fn.body=none:=by cases hb:fn.body <;> simp_all
 have h3 : ¬ fn.name = "runtime.NumGoroutine" := by simpa using h3
 simp only [execOp,resolve,hx,Deferred.ofValue,Array.empty_append]
 simp [invoke,callFunc,h1,h3,h4]

theorem znv {d N:Nat} {G:Gh} {σ:St} {w:World} {a:Act} (h:Sim d N G σ a.tmps w) {x:Operand} {k:Nat} {caps:List AV} (hc:calleeOf σ.env x=some (k,caps)) :
 ∃ vs:Array Value,a.eval x=.func (.func k) #[] vs∧ArgsOK w G caps vs:=by
 unfold calleeOf at hc
 split at hc
 ·rename_i f cs hx
  simp only [Option.some.injEq,Prod.mk.injEq] at hc
  obtain ⟨rfl,rfl⟩:=hc
  have hr:=h.opnd x
  rw [hx] at hr
  obtain ⟨hl,vs,hv,hvs⟩:=hr
  refine ⟨vs,hv,by rw [← Array.length_toList,hvs,List.length_map,List.length_map],fun i y hi=>?_⟩
  rw [List.getElem?_map] at hi
  cases hq:cs[i]? with
  | none=>rw [hq] at hi;cases hi
  | some c =>
   rw [hq] at hi
   simp only [Option.map_some,Option.some.injEq] at hi
   subst hi
   refine ⟨.pointer (some ⟨G.β c.1,c.2,none⟩),by rw [← Array.getElem?_toList,hvs,List.getElem?_map,hq];rfl,fun _ _=>⟨hl c (List.mem_of_getElem? hq),rfl⟩⟩
 ·cases hc

theorem ArgsOK.append {w:World} {G:Gh} {az_ bs:List AV} {us vs:Array Value} (h1:ArgsOK w G az_ us) (h2:ArgsOK w G bs vs):ArgsOK w G (az_ ++ bs) (us ++ vs):=by
 refine ⟨by rw [Array.size_append,h1.1,h2.1,List.length_append],fun i x hi=>?_⟩
 rw [List.getElem?_append] at hi
 split at hi
 ·rename_i hlt
  obtain ⟨v,hv,hr⟩:=h1.2 i x hi
  exact ⟨v,by rw [Array.getElem?_append,if_pos (by rw [h1.1];exact hlt)];exact hv,hr⟩
 ·rename_i hge
  obtain ⟨v,hv,hr⟩:=h2.2 _ x hi
  exact ⟨v,by rw [Array.getElem?_append,if_neg (by rw [h1.1];exact hge),h1.1];exact hv,hr⟩

theorem ArgsOK.operands {d N:Nat} {G:Gh} {σ:St} {w:World} {a:Act} (h:Sim d N G σ a.tmps w) (args:Array Operand) :
 ArgsOK w G (args.toList.map fun y=>(opnd σ.env y).copy) (args.map a.eval):=by
 refine ⟨by simp,fun i x hi=>?_⟩
 rw [List.getElem?_map,Array.getElem?_toList] at hi
 cases hq:args[i]? with
 | none=>rw [hq] at hi;cases hi
 | some y =>
  rw [hq] at hi
  simp only [Option.map_some,Option.some.injEq] at hi
  subst hi
  exact ⟨a.eval y,by rw [Array.getElem?_map,hq];rfl,fun _ _=>RA_copy (h.opnd y)⟩

theorem call_step {P:Program} {d N:Nat} {o:Oper} {σ:St} (hd:o.dst.all (· < N)=true) {x:Operand} {args:Array Operand} {argTypes:Array TypeId} (ho:o.op=.call { callee:=.value x,args,argTypes })
 {k:Nat} {caps:List AV} (hc:calleeOf σ.env x=some (k,caps)) {r:AV} {mem':Mem} (hcall:CallOK P d k (args.toList.map (fun y=>(opnd σ.env y).copy) ++ caps) σ.mem mem' r) :
 StepOK P d N o σ { env:=putD σ.env o.dst r,mem:=mem' }:=by
 intro G w a K Q hS hK
 obtain ⟨vs,hv,hcap⟩:=znv hS hc
 obtain ⟨hE,hcalls⟩:=hcall
 have hA:=(ArgsOK.operands hS args).append hcap
 have hC:=hcalls G w _ hA hS.memOK
 obtain ⟨dst,op,ty,pos,after,guard⟩:=o
 simp only at ho hd ⊢
 subst ho
 unfold Oper.wp
 rw [zol hv hE]
 show Calls P k _ w _
 refine hC.mono fun e w' he=>?_
 obtain ⟨v,G',rfl,hR,hM,hF⟩:=he
 simp only

 have hFd:Frm d G w G' w' :=
  {size:=hF.size,kept:=hF.kept,age:=fun b hb ha=>hF.age b hb (by omega),box:=fun b hb ha=>hF.box b hb (by omega),use:=fun b hb ha=>hF.use b hb (by omega),cell:=fun b off hb ha=>hF.cell b off hb (by omega),live:=fun k hk hkd=>hF.live k hk (by omega)
   same:=fun b hb ht=>hF.same b hb fun hh=>ht (by
    cases hg:G.own b with
    | none=>rw [hg] at hh;exact hh
    | some t =>
     rw [hg] at hh
     cases t with
     | foreign=>exact hh
     | box k=>trivial
     | «at» o q =>
      cases o with
      | slot d' t'=>exact Nat.le_of_succ_le hh
      | cell k=>trivial
      | ret=>trivial),back:=fun k hk hl=>hF.back k (by omega) hl,up:=fun b hb=>by
    by_cases hge:d+1≤G.age b+1
    ·have:=hF.up b hge;omega
    ·have hlt:b < w.heap.size:=by
      rcases Nat.lt_or_ge b w.heap.size with h | h
      ·exact h
      ·have:=hS.fut b h;omega
     rw [hF.age b hlt (by omega)];exact hb }
 have henv:∀ t,RA w' G' (.slot d t) (σ.env t) (a.tmps.getD t undef):=fun t=>by
  have hh:Hands w G w' G' (.slot d t) [] (.slot d t) [] fun _=>false:=Frm.hands hF (fun r hh=>by have:d+1≤d:=hh;omega) (fun b _=>Nat.lt_succ_of_le (hS.age b)) (fun k hk _=>hF.live k hk (by have:=hS.dep k hk;omega))
  exact hh.ra0 (hS.env t)
 have hS1:Sim d N G' { σ with mem:=mem' } a.tmps w':=hM.sim hS.sz henv (jump_call hS.jump (fun b hb=>Nat.le_of_eq (hS.fut b hb).symm) hF)
 have hdef:(a.put dst v).defers=a.defers:=by cases dst <;> rfl
 cases dst with
 | none=>exact hK G' _ w' hS1 hFd hdef
 | some t =>
  have hφ:RenOK d (mvT .ret (.slot d t)):=mvT_ok trivial (Nat.le_refl d)
  have hS2:=hS1.ren hφ σ.env mem' (fun t2=>.inr ⟨rfl,fun q=>by simp [mvT]⟩) (Sim.memSame (σ:={ σ with mem:=mem' }) _ fun k q=>by simp [mvT]) (fun o p k q hq=>by
   left
   simp only [mvT] at hq
   split at hq
   ·cases hq
   ·simp only [Tag.at.injEq] at hq;exact ⟨k,hq.1,rfl⟩)
  have hR2:RA w' (Ev.ren G' (mvT .ret (.slot d t))) (.slot d t) r v:=(hφ.hands G' w' (p:=[]) (p':=[]) fun q=>by simp [mvT]).ra0 hR
  have hS3:=hS2.put (a:=a) (dst:=some t) hd (v:=r) (r:=v) fun t' ht'=>by cases ht';exact hR2
  exact hK _ _ w' hS3 (hFd.trans (hφ.frm G' w')) hdef

end Go.Ev


namespace Go.Ev

def Rev (m1 m:Mem):Prop:=∀ k cs1,m1 k=some cs1→∃ cs,m k=some cs∧cs.length=cs1.length∧∀ (i:Nat) c,cs1[i]?=some c→c.isDead=false→∃ c',cs[i]?=some c'∧c'.copy=c.copy
theorem Rev.refl (m:Mem):Rev m m:=fun _ cs h=>⟨cs,h,rfl,fun _ c h _=>⟨c,h,rfl⟩⟩
theorem isDead_copy (c:C):c.copy.isDead=c.isDead:=by cases c <;> rfl
theorem Rev.seg {m1 m:Mem} (h:Rev m1 m) {k:Key} {cs1:List C} (hk:m1 k=some cs1) {off n:Nat} {sg:List C} (hs:Ev.seg cs1 off n=some sg) (hd:sg.all (fun c=>!c.isDead)=true) :
 ∃ cs sg',m k=some cs∧Ev.seg cs off n=some sg'∧sg'.map C.copy=sg.map C.copy∧sg'.all (fun c=>!c.isDead)=true:=by
 obtain ⟨cs,hc,hl,hi⟩:=h k cs1 hk
 unfold Ev.seg at hs
 split at hs
 ·rename_i hle
  simp only [Option.some.injEq] at hs
  have hmap:((cs.drop off).take n).map C.copy=sg.map C.copy:=by
   rw [← hs]
   apply List.ext_getElem?
   intro i
   rw [List.getElem?_map,List.getElem?_map,List.getElem?_take,List.getElem?_take]
   by_cases hin:i < n
   ·rw [if_pos hin,if_pos hin,List.getElem?_drop,List.getElem?_drop]
    have hx:cs1[off+i]?=some cs1[off+i]:=List.getElem?_eq_getElem (by omega)
    have hm:cs1[off+i]∈sg:=by
     rw [← hs]
     refine List.mem_of_getElem? (i:=i) ?_
     rw [List.getElem?_take,if_pos hin,List.getElem?_drop,hx]
    rw [List.all_eq_true] at hd
    obtain ⟨c',h1,h2⟩:=hi _ _ hx (by simpa using hd _ hm)
    rw [hx,h1,Option.map_some,Option.map_some,h2]
   ·rw [if_neg hin,if_neg hin]
  refine ⟨cs,(cs.drop off).take n,hc,by unfold Ev.seg;rw [if_pos (by omega)],hmap,?_⟩
  have hall:∀ l:List C,l.all (fun c=>!c.isDead)=(l.map C.copy).all (fun c=>!c.isDead):=fun l=>by
   rw [List.all_map]
   congr 1
   funext c
   simp only [Function.comp_apply,isDead_copy]
  rw [hall,hmap,← hall]
  exact hd
 ·cases hs

def agreeM:Cls→Key→Mem→Mem→Prop
 | .p,_,_,_=>True
 | .l,_,m,m'=>Rev m m'
 | .a,key,_,m'=>m' key=none
 | .m,_,m,m'=>m'=m
 | .t,_,m,m'=>m'=m

def effM:Cls→Key→Mem→Mem→Prop
 | .p,_,m,m1=>m1=m
 | .l,_,m,m1=>m1=m
 | .a,key,m,m1=>m key=none∧∃ cs,m1=upd m key cs
 | .m,_,_,_=>True
 | .t,_,m,m1=>Rev m1 m

def sameM:Cls→Key→Mem→Mem→Prop
 | .a,key,m1,m1'=>m1' key=m1 key
 | .m,_,m1,m1'=>m1'=m1
 | .t,_,m1,m1'=>m1'=m1
 | _,_,_,_=>True

structure Local (S:St→Option St) (R W:List Nat) (c:Cls) (key:Key):Prop where
 env:∀ σ σ1,S σ=some σ1→∀ t,t ∉ W→σ1.env t=σ.env t
 mem:∀ σ σ1,S σ=some σ1→effM c key σ.mem σ1.mem
 ext:∀ σ σ1 σ',S σ=some σ1→(∀ t∈R,σ'.env t=σ.env t)→agreeM c key σ.mem σ'.mem →
  ∃ σ1',S σ'=some σ1'∧(∀ t∈W,σ1'.env t=σ1.env t)∧sameM c key σ1.mem σ1'.mem

theorem St.ext' {σ τ:St} (h1:∀ t,σ.env t=τ.env t) (h2:σ.mem=τ.mem):σ=τ:=by
 cases σ;cases τ
 simp only at h1 h2
 subst h2
 congr 1
 exact funext h1

theorem swap {Sx Sy:St→Option St} {Rx Wx Ry Wy:List Nat} {cx cy:Cls} {kx ky:Key} (hx:Local Sx Rx Wx cx kx) (hy:Local Sy Ry Wy cy ky)
 (h1:∀ t∈Wx,t ∉ Ry) (h2:∀ t∈Wx,t ∉ Wy) (h3:∀ t∈Rx,t ∉ Wy) (hc:clsOK cx cy=true) (hk:cx=.a→cy=.a→kx≠ky) {σ σ1 σ2:St} (hs1:Sx σ=some σ1) (hs2:Sy σ1=some σ2) :
 ∃ σ1',Sy σ=some σ1'∧Sx σ1'=some σ2:=by
 have e1:=hx.env σ σ1 hs1
 have m1:=hx.mem σ σ1 hs1
 have e2:=hy.env σ1 σ2 hs2
 have m2:=hy.mem σ1 σ2 hs2

 have ay:agreeM cy ky σ1.mem σ.mem:=by
  cases cy with
  | p=>trivial
  | l =>
   show Rev σ1.mem σ.mem
   cases cx with
   | p=>simp only [effM] at m1;rw [m1];exact Rev.refl _
   | l=>simp only [effM] at m1;rw [m1];exact Rev.refl _
   | a=>simp [clsOK] at hc
   | m=>simp [clsOK] at hc
   | t=>exact m1
  | t =>
   cases cx with
   | p=>simp only [effM] at m1;exact m1.symm
   | _=>simp [clsOK] at hc
  | a =>
   simp only [effM] at m2
   show σ.mem ky=none
   cases cx with
   | p=>simp only [effM] at m1;rw [← m1];exact m2.1
   | l=>simp only [effM] at m1;rw [← m1];exact m2.1
   | a =>
    obtain ⟨_,cs,hcs⟩:=m1
    have:=m2.1
    rw [hcs] at this
    have hne:ky≠kx:=fun e=>hk rfl rfl e.symm
    simpa [upd,hne] using this
   | m=>simp [clsOK] at hc
   | t=>simp [clsOK] at hc
  | m =>
   cases cx with
   | p=>simp only [effM] at m1;exact m1.symm
   | l=>simp [clsOK] at hc
   | a=>simp [clsOK] at hc
   | m=>simp [clsOK] at hc
   | t=>simp [clsOK] at hc
 obtain ⟨σ1',hy',ew,mw⟩:=hy.ext σ1 σ2 σ hs2 (fun t ht=>(e1 t (fun hw=>h1 t hw ht)).symm) ay
 have e1':=hy.env σ σ1' hy'
 have m1':=hy.mem σ σ1' hy'
 have ax:agreeM cx kx σ.mem σ1'.mem:=by
  cases cx with
  | p=>trivial
  | l =>
   show Rev σ.mem σ1'.mem
   cases cy with
   | p=>simp only [effM] at m1';rw [m1'];exact Rev.refl _
   | l=>simp only [effM] at m1';rw [m1'];exact Rev.refl _
   | a =>
    obtain ⟨hn,cs,hcs⟩:=m1'
    intro k ks hkn
    have hne:k≠ky:=fun e=>by subst e;rw [hn] at hkn;cases hkn
    rw [hcs]
    exact ⟨ks,by simp [upd,hne,hkn],rfl,fun _ c h _=>⟨c,h,rfl⟩⟩
   | m=>simp [clsOK] at hc
   | t=>simp [clsOK] at hc
  | t =>
   cases cy with
   | p=>simp only [effM] at m1';exact m1'
   | l=>simp only [effM] at m1';exact m1'
   | _=>simp [clsOK] at hc
  | a =>
   show σ1'.mem kx=none
   have hn:=m1.1
   cases cy with
   | p=>simp only [effM] at m1';rw [m1'];exact hn
   | l=>simp [clsOK] at hc
   | a =>
    obtain ⟨_,cs,hcs⟩:=m1'
    rw [hcs]
    have hne:kx≠ky:=hk rfl rfl
    simpa [upd,hne] using hn
   | m=>simp [clsOK] at hc
   | t=>simp [clsOK] at hc
  | m =>
   cases cy with
   | p=>simp only [effM] at m1';exact m1'
   | l=>simp [clsOK] at hc
   | a=>simp [clsOK] at hc
   | m=>simp [clsOK] at hc
   | t=>simp [clsOK] at hc
 obtain ⟨σ2',hx',ew2,mw2⟩:=hx.ext σ σ1 σ1' hs1 (fun t ht=>e1' t (h3 t ht)) ax
 have e2':=hx.env σ1' σ2' hx'
 have m2':=hx.mem σ1' σ2' hx'
 refine ⟨σ1',hy',?_⟩
 rw [hx']
 congr 1
 refine St.ext' (fun t=>?_) ?_
 ·by_cases hwx:t∈Wx
  ·rw [ew2 t hwx,e2 t (h2 t hwx)]
  ·rw [e2' t hwx]
   by_cases hwy:t∈Wy
   ·exact ew t hwy
   ·rw [e1' t hwy,e2 t hwy,e1 t hwx]
 ·cases cx with
  | p =>
   simp only [effM] at m1 m2'
   rw [m2']
   cases cy with
   | p=>simp only [effM] at m1' m2;rw [m1',m2,m1]
   | l=>simp only [effM] at m1' m2;rw [m1',m2,m1]
   | a =>
    obtain ⟨_,cs,hcs⟩:=m1'
    obtain ⟨_,cs2,hcs2⟩:=m2
    simp only [sameM] at mw
    rw [hcs,hcs2] at mw ⊢
    simp only [upd,if_true] at mw
    rw [m1,mw]
   | m=>exact mw
   | t=>exact mw
  | l =>
   simp only [effM] at m1 m2'
   rw [m2']
   cases cy with
   | p=>simp only [effM] at m1' m2;rw [m1',m2,m1]
   | l=>simp only [effM] at m1' m2;rw [m1',m2,m1]
   | a =>
    obtain ⟨_,cs,hcs⟩:=m1'
    obtain ⟨_,cs2,hcs2⟩:=m2
    simp only [sameM] at mw
    rw [hcs,hcs2] at mw ⊢
    simp only [upd,if_true] at mw
    rw [m1,mw]
   | m=>simp [clsOK] at hc
   | t=>simp [clsOK] at hc
  | a =>
   obtain ⟨_,c1,hc1⟩:=m1
   obtain ⟨_,c2,hc2⟩:=m2'
   simp only [sameM] at mw2
   rw [hc1,hc2] at mw2
   simp only [upd,if_true] at mw2
   subst mw2
   cases cy with
   | p=>simp only [effM] at m1' m2;rw [hc2,m1',m2,hc1]
   | l=>simp [clsOK] at hc
   | a =>
    obtain ⟨_,c3,hc3⟩:=m1'
    obtain ⟨_,c4,hc4⟩:=m2
    simp only [sameM] at mw
    rw [hc3,hc4] at mw
    simp only [upd,if_true] at mw
    subst mw
    rw [hc2,hc3,hc4,hc1]
    have hne:kx≠ky:=hk rfl rfl
    funext k
    unfold upd
    by_cases h1:k=kx
    ·subst h1;simp [hne]
    ·simp [h1]
   | m=>simp [clsOK] at hc
   | t=>simp [clsOK] at hc
  | m =>
   cases cy with
   | p=>simp only [effM] at m1' m2;simp only [sameM] at mw2;rw [mw2,m2]
   | l=>simp [clsOK] at hc
   | a=>simp [clsOK] at hc
   | m=>simp [clsOK] at hc
   | t=>simp [clsOK] at hc
  | t =>
   cases cy with
   | p=>simp only [effM] at m1' m2;simp only [sameM] at mw2;rw [mw2,m2]
   | l=>simp only [effM] at m1' m2;simp only [sameM] at mw2;rw [mw2,m2]
   | _=>simp [clsOK] at hc

theorem zkj {ops:Array Oper} {o:Oper} {t:Nat} (h:Operand.tmp t∈o.op.operands):t∈readsOf ops o:=by
 unfold readsOf
 exact List.mem_append_left _ (List.mem_filterMap.2 ⟨.tmp t,by simpa using h,rfl⟩)

theorem zbk {ops:Array Oper} {o:Oper} {σ σ':St} (h:∀ t∈readsOf ops o,σ'.env t=σ.env t) {x:Operand} (hx:x∈o.op.operands):opnd σ'.env x=opnd σ.env x:=by
 cases x with
 | tmp t=>exact h t (zkj hx)
 | _=>rfl

theorem wants_eq {ops:Array Oper} {o:Oper} {σ σ':St} (h:∀ t∈readsOf ops o,σ'.env t=σ.env t):wants ops σ'.env o=wants ops σ.env o:=by
 unfold wants
 cases hg:o.guard with
 | none=>rfl
 | some jb =>
  obtain ⟨j,b⟩:=jb
  cases ht:(ops[j]?).bind (·.dst) with
  | none=>dsimp only;rw [ht];rfl
  | some t =>
   have:t∈readsOf ops o:=by
    unfold readsOf
    rw [hg]
    exact List.mem_append_right _ (by simp only [ht];simp)
   dsimp only
   rw [ht]
   simp only [Option.bind_some,h t this]

theorem zgv {env:Nat→AV} {x:Operand} {t:Nat} (h:x≠.tmp t):kil env x t=env t:=by
 cases x with
 | tmp u=>simp only [kil,upd];rw [if_neg];rintro rfl;exact h rfl
 | _=>rfl
theorem zou {env env':Nat→AV} {t:Nat}:kil env (.tmp t) t=kil env' (.tmp t) t:=by simp [kil,upd]

theorem zgp {env:Nat→AV} {dst:Option Nat} {v:AV} {t:Nat} (h:dst≠some t):putD env dst v t=env t:=by
 cases dst with
 | none=>rfl
 | some u=>simp only [putD,upd];rw [if_neg];rintro rfl;exact h rfl

def takesOf (g:Cfg) (f:Nat) (o:Oper):List Nat :=
 let ts:=o.op.operands.toList.filterMap fun | .tmp t=>some t | _=>none
 match o.op with
 | .move _=>if g.tk f o.dst then ts else []
 | .assign _ | .extract .. | .box .. | .store .. | .build .. | .buildSlice ..=>ts
 | .call { callee:=.builtin .append,.. }=>ts
 | _=>[]

theorem zgg (g:Cfg) (f:Nat) (o:Oper):writesOf g f o=o.dst.toList ++ takesOf g f o:=rfl

def LocalOp (g:Cfg) (d f:Nat) (ops:Array Oper) (o:Oper) (σ σ1:St) (v:AV):Prop :=
 (∀ t,t ∉ takesOf g f o→σ1.env t=σ.env t)∧effM (clsOf g f o) (d,o.dst.getD 0) σ.mem σ1.mem ∧
 ∀ σ',(∀ t∈readsOf ops o,σ'.env t=σ.env t)→agreeM (clsOf g f o) (d,o.dst.getD 0) σ.mem σ'.mem →
  ∃ σ1',opE g d f o σ'=some (v,σ1')∧(∀ t∈takesOf g f o,σ1'.env t=σ1.env t)∧sameM (clsOf g f o) (d,o.dst.getD 0) σ1.mem σ1'.mem

theorem loc_p {g:Cfg} {d f:Nat} {ops:Array Oper} {o:Oper} {σ σ1:St} {v:AV} (hc:clsOf g f o=.p) (ht:takesOf g f o=[]) (h1:σ1=σ)
 (h2:∀ σ',(∀ t∈readsOf ops o,σ'.env t=σ.env t)→opE g d f o σ'=some (v,σ')):LocalOp g d f ops o σ σ1 v:=by
 subst h1
 refine ⟨fun _ _=>rfl,by rw [hc];rfl,fun σ' hR _=>⟨σ',h2 σ' hR,by rw [ht];simp,by rw [hc];trivial⟩⟩

theorem loc_l {g:Cfg} {d f:Nat} {ops:Array Oper} {o:Oper} {σ σ1:St} {v:AV} (hc:clsOf g f o=.l) (ht:takesOf g f o=[]) (h1:σ1=σ)
 (h2:∀ σ',(∀ t∈readsOf ops o,σ'.env t=σ.env t)→Rev σ.mem σ'.mem→opE g d f o σ'=some (v,σ')):LocalOp g d f ops o σ σ1 v:=by
 subst h1
 refine ⟨fun _ _=>rfl,by rw [hc];rfl,fun σ' hR hA=>?_⟩
 rw [hc] at hA
 exact ⟨σ',h2 σ' hR hA,by rw [ht];simp,by rw [hc];trivial⟩

theorem loc_t {g:Cfg} {d f:Nat} {ops:Array Oper} {o:Oper} {σ σ1:St} {v:AV} (E:(Nat→AV)→Nat→AV) (hc:clsOf g f o=.p) (h1:σ1={ σ with env:=E σ.env })
 (he:∀ e t,t ∉ takesOf g f o→E e t=e t) (hi:∀ e e',(∀ t∈readsOf ops o,e' t=e t)→∀ t∈takesOf g f o,E e' t=E e t)
 (h2:∀ σ',(∀ t∈readsOf ops o,σ'.env t=σ.env t)→opE g d f o σ'=some (v,{ σ' with env:=E σ'.env })):LocalOp g d f ops o σ σ1 v:=by
 subst h1
 refine ⟨fun t ht=>he _ t ht,by rw [hc];rfl,fun σ' hR _=>⟨_,h2 σ' hR,fun t ht=>hi _ _ hR t ht,by rw [hc];trivial⟩⟩

theorem zio {ps:List (Nat × Operand)} {t:Nat}:∀ {e:Nat→AV},(∀ p∈ps,p.2≠.tmp t)→ps.foldl (fun e p=>kil e p.2) e t=e t:=by
 induction ps with
 | nil=>intro e _;rfl
 | cons p ps ih =>
  intro e h
  rw [List.foldl_cons,ih fun q hq=>h q (List.mem_cons_of_mem _ hq)]
  exact zgv (h p (List.mem_cons_self ..))

theorem zia {ps:List (Nat × Operand)} {t:Nat}:∀ {e:Nat→AV},(∃ p∈ps,p.2=.tmp t)→ps.foldl (fun e p=>kil e p.2) e t=.dead:=by
 induction ps with
 | nil=>intro e h;obtain ⟨p,hp,_⟩:=h;cases hp
 | cons p ps ih =>
  intro e h
  rw [List.foldl_cons]
  by_cases hh:∃ q∈ps,q.2=.tmp t
  ·exact ih hh
  ·obtain ⟨q,hq,he⟩:=h
   cases hq with
   | tail _ hq=>exact absurd ⟨q,hq,he⟩ hh
   | head =>
    rw [zio fun q hq e=>hh ⟨q,hq,e⟩,he]
    simp [kil,upd]

theorem zfk {P:Program} {env env':Nat→AV} {o:Oper} (h:∀ x∈o.op.operands,opnd env' x=opnd env x)
 (hx:∀ ρ ρ':Operand→Value,(∀ x∈o.op.operands,ρ' x=ρ x)→execOp ρ' o=execOp ρ o):scalarOp P env' o=scalarOp P env o:=by
 unfold scalarOp
 have h1:o.op.operands.all (fun x=>(sclr (opnd env' x)).isSome)=o.op.operands.all (fun x=>(sclr (opnd env x)).isSome):=by
  rw [Bool.eq_iff_iff,Array.all_eq_true_iff_forall_mem,Array.all_eq_true_iff_forall_mem]
  exact ⟨fun hh x hx=>by rw [← h x hx];exact hh x hx,fun hh x hx=>by rw [h x hx];exact hh x hx⟩
 rw [h1,hx _ _ fun x hx=>by rw [h x hx]]

theorem zcx (op:Op) (t:Nat):t∈(op.operands.toList.filterMap fun | .tmp t=>some t | _=>none) ↔ Operand.tmp t∈op.operands:=by
 rw [List.mem_filterMap]
 constructor
 ·rintro ⟨a,ha,he⟩
  cases a with
  | tmp u=>simp only [Option.some.injEq] at he;subst he;simpa using ha
  | _=>cases he
 ·intro h;exact ⟨.tmp t,by simpa using h,rfl⟩

theorem mapM_congr' {α β:Type} {F H:α→Option β}:∀ {l:List α},(∀ x∈l,F x=H x)→l.mapM F=l.mapM H
 | [],_=>rfl
 | a :: l,h=>by
  rw [List.mapM_cons,List.mapM_cons,h a (List.mem_cons_self ..),mapM_congr' fun x hx=>h x (List.mem_cons_of_mem _ hx)]

theorem opE_local (g:Cfg) (d f:Nat) (ops:Array Oper) (o:Oper) {σ σ1:St} {v:AV} (h:opE g d f o σ=some (v,σ1)):LocalOp g d f ops o σ σ1 v:=by
 obtain ⟨dst,op,ty,pos,after,guard⟩:=o
 cases op with
 | move x =>
  have hk:∀ t,x=.tmp t ↔ Operand.tmp t∈(Op.move x).operands:=fun t=>by simp [Op.operands,eq_comm]
  cases htk:g.tk f dst with
  | true =>
   simp only [opE,htk,if_true,Option.some.injEq,Prod.mk.injEq] at h
   obtain ⟨rfl,rfl⟩:=h
   refine loc_t (fun e=>kil e x) rfl rfl (fun e t ht=>zgv fun hx=>ht ?_) (fun e e' _ t ht=>?_) fun σ' hR=>?_
   ·simp only [takesOf,htk,if_true];rw [zcx];exact (hk t).1 hx
   ·simp only [takesOf,htk,if_true] at ht;rw [zcx] at ht;rw [(hk t).2 ht];exact zou
   ·have hx:=zbk (x:=x) hR (by simp [Op.operands])
    simp only [opE,htk,if_true,hx]
  | false =>
   simp only [opE,htk,Bool.false_eq_true,if_false,Option.some.injEq,Prod.mk.injEq] at h
   obtain ⟨rfl,rfl⟩:=h
   refine loc_p rfl (by simp only [takesOf,htk,Bool.false_eq_true,if_false]) rfl fun σ' hR=>?_
   have hx:=zbk (x:=x) hR (by simp [Op.operands])
   simp only [opE,htk,Bool.false_eq_true,if_false,hx]
 | assign x =>
  have hk:∀ t,x=.tmp t ↔ Operand.tmp t∈(Op.assign x).operands:=fun t=>by simp [Op.operands,eq_comm]
  simp only [opE,Option.some.injEq,Prod.mk.injEq] at h
  obtain ⟨rfl,rfl⟩:=h
  refine loc_t (fun e=>kil e x) rfl rfl (fun e t ht=>zgv fun hx=>ht ?_) (fun e e' _ t ht=>?_) fun σ' hR=>?_
  ·simp only [takesOf];rw [zcx];exact (hk t).1 hx
  ·simp only [takesOf] at ht;rw [zcx] at ht;rw [(hk t).2 ht];exact zou
  ·have hx:=zbk (x:=x) hR (by simp [Op.operands])
   simp only [opE,hx]
 | pick c a b =>
  simp only [opE,bind,Option.bind_eq_some_iff,Option.some.injEq,Prod.mk.injEq] at h
  obtain ⟨t,ht,rfl,rfl⟩:=h
  refine loc_p rfl rfl rfl fun σ' hR=>?_
  have hc:=zbk (x:=c) hR (by simp [Op.operands])
  have ha:=zbk (x:=a) hR (by simp [Op.operands])
  have hb:=zbk (x:=b) hR (by simp [Op.operands])
  simp only [opE,bind,hc,ht,Option.bind_some]
  cases t <;> simp [ha,hb]
 | extract x i =>
  simp only [opE] at h
  cases x with
  | tmp t =>
   dsimp only at h
   cases he:σ.env t with
   | tu vs =>
    rw [he] at h
    simp only [bind,Option.bind_eq_some_iff] at h
    obtain ⟨⟨ag,cs⟩,hi,w,hw,h⟩:=h
    simp only [Option.some.injEq,Prod.mk.injEq] at h
    obtain ⟨rfl,rfl⟩:=h
    refine loc_t (fun e u=>if u=t then (match e t with | .tu vs=>(match vs[i]? with | some (ag,cs)=>.tu (vs.set i (ag,cs.map fun _=>.dead)) | none=>e t) | _=>e t) else e u) rfl ?_ (fun e u hu=>?_) (fun e e' hR u hu=>?_) fun σ' hR=>?_
    ·simp only [he,hi];rfl
    ·have hne:u≠t:=by rintro rfl;exact hu (by simp only [takesOf];rw [zcx];simp [Op.operands])
     simp [hne]
    ·simp only [takesOf] at hu
     rw [zcx] at hu
     have hut:u=t:=by simpa [Op.operands] using hu
     subst hut
     have:e' u=e u:=hR u (zkj hu)
     simp [this]
    ·have hx:σ'.env t=σ.env t:=hR t (zkj (by simp [Op.operands]))
     simp only [opE,hx,he,bind,hi,Option.bind_some,hw]
     rfl
   | one c=>rw [he] at h;cases h
   | ag cs=>rw [he] at h;cases h
  | _=>cases h
 | alloc e =>
  simp only [opE,bind,Option.bind_eq_some_iff] at h
  obtain ⟨i,hi,t,rfl,h⟩:=h
  split at h
  ·cases h
  ·rename_i hm
   simp only [Option.some.injEq,Prod.mk.injEq] at h
   obtain ⟨rfl,rfl⟩:=h
   obtain ⟨hm',htK⟩:σ.mem (d,t)=none∧¬ t=deepK:=by simpa using hm
   refine ⟨fun _ _=>rfl,⟨hm',_,rfl⟩,fun σ' hR hA=>?_⟩
   have hA':σ'.mem (d,t)=none:=hA
   refine ⟨{ σ' with mem:=upd σ'.mem (d,t) (some (i.zero.map C.ofValue)) },by simp [opE,hi,hA',htK],fun t ht=>by simp [takesOf] at ht,?_⟩
   show upd σ'.mem (d,t) _ (d,t)=upd σ.mem (d,t) _ (d,t)
   simp [upd]
 | box e x =>
  have hk:∀ t,x=.tmp t ↔ Operand.tmp t∈(Op.box e x).operands:=fun t=>by simp [Op.operands,eq_comm]
  simp only [opE,bind,Option.bind_eq_some_iff] at h
  obtain ⟨i,hi,t,rfl,cs,hcs,h⟩:=h
  split at h
  ·cases h
  ·rename_i hm
   simp only [Option.some.injEq,Prod.mk.injEq] at h
   obtain ⟨rfl,rfl⟩:=h
   obtain ⟨hm',htK⟩:σ.mem (d,t)=none∧¬ t=deepK:=by simpa using hm
   refine ⟨fun u hu=>zgv fun hx=>hu ?_,⟨hm',_,rfl⟩,fun σ' hR hA=>?_⟩
   ·simp only [takesOf];rw [zcx];exact (hk u).1 hx
   have hA':σ'.mem (d,t)=none:=hA
   have hx:=zbk (x:=x) hR (by simp [Op.operands])
   refine ⟨{ env:=kil σ'.env x,mem:=upd σ'.mem (d,t) (some cs) },by simp [opE,hi,hA',hx,hcs,htK],fun u hu=>?_,?_⟩
   ·simp only [takesOf] at hu;rw [zcx] at hu;rw [(hk u).2 hu];exact zou
   show upd σ'.mem (d,t) _ (d,t)=upd σ.mem (d,t) _ (d,t)
   simp [upd]
 | load lt a =>
  have hE:∀ σ':St,(∀ t∈readsOf ops ⟨dst,.load lt a,ty,pos,after,guard⟩,σ'.env t=σ.env t)→opnd σ'.env a=opnd σ.env a:=fun σ' hR=>zbk (x:=a) hR (by simp [Op.operands])
  cases htk:g.tk f dst with
  | true =>
   have hc:clsOf g f ⟨dst,.load lt a,ty,pos,after,guard⟩=.t:=by simp [clsOf,htk]
   simp only [opE,htk,if_true,bind,Option.bind_eq_some_iff] at h
   have henv:σ1.env=σ.env:=by
    obtain ⟨i,hi,h⟩:=h
    split at h
    ·simp only [Option.bind_eq_some_iff] at h
     obtain ⟨_,_,_,_,h⟩:=h
     split at h
     ·cases h
     ·simp only [Option.bind_eq_some_iff,Option.some.injEq,Prod.mk.injEq] at h
      obtain ⟨_,_,_,rfl⟩:=h
      rfl
    ·simp only [Option.bind_eq_some_iff,Option.some.injEq,Prod.mk.injEq] at h
     obtain ⟨_,_,_,_,_,rfl⟩:=h
     rfl
    ·cases h
   have hrev:Rev σ1.mem σ.mem:=by
    obtain ⟨i,hi,h⟩:=h
    split at h
    ·rename_i k0 off0 _
     simp only [Option.bind_eq_some_iff] at h
     obtain ⟨cs,hcs,sg,hsg,h⟩:=h
     split at h
     ·cases h
     ·simp only [Option.bind_eq_some_iff,Option.some.injEq,Prod.mk.injEq] at h
      obtain ⟨_,_,_,rfl⟩:=h
      have hlen:sg.length=i.size∧off0+i.size≤cs.length:=by
       unfold seg at hsg
       split at hsg
       ·rename_i hle
        simp only [Option.some.injEq] at hsg
        subst hsg
        exact ⟨by rw [List.length_take,List.length_drop];omega,hle⟩
       ·cases hsg
      intro k' cs1 hk'
      simp only [upd] at hk'
      split at hk'
      ·rename_i he
       subst he
       simp only [Option.some.injEq] at hk'
       subst hk'
       refine ⟨cs,hcs,by unfold splice;simp only [List.length_append,List.length_take,List.length_drop,List.length_map,hlen.1];omega,fun j c hj hcd=>?_⟩
       rw [zdp _ _ _ (by rw [List.length_map,hlen.1];exact hlen.2),List.length_map,hlen.1] at hj
       by_cases hin:off0≤j∧j < off0+i.size
       ·rw [if_pos hin,List.getElem?_map] at hj
        cases hq:sg[j - _]? with
        | none=>rw [hq] at hj;cases hj
        | some q =>
         rw [hq] at hj
         simp only [Option.map_some,Option.some.injEq] at hj
         split at hj
         ·subst hj
          refine ⟨q,?_,(C.copy_twice q).symm⟩
          rw [← hq,(zhx hsg).2.2 _ (by omega)]
          congr 1
          omega
         ·subst hj;cases hcd
       ·rw [if_neg hin] at hj;exact ⟨c,hj,rfl⟩
      ·exact ⟨cs1,hk',rfl,fun _ c h _=>⟨c,h,rfl⟩⟩
    ·simp only [Option.bind_eq_some_iff,Option.some.injEq,Prod.mk.injEq] at h
     obtain ⟨_,_,_,_,_,rfl⟩:=h
     exact Rev.refl _
    ·cases h
   refine ⟨fun t _=>by rw [henv],by rw [hc];exact hrev,fun σ' hR hA=>?_⟩
   rw [hc] at hA
   have hx:=hE σ' hR
   have hm:σ'.mem=σ.mem:=hA
   refine ⟨{ σ' with mem:=σ1.mem },?_,fun t ht=>by simp [takesOf] at ht,by rw [hc];rfl⟩
   obtain ⟨i,hi,h⟩:=h
   simp only [opE,htk,if_true,bind,hi,Option.bind_some,hx,hm]
   split at h
   ·rename_i hq
    simp only [Option.bind_eq_some_iff] at h
    obtain ⟨cs,hcs,sg,hsg,h⟩:=h
    split at h
    ·cases h
    ·rename_i hkd
     simp only [Option.bind_eq_some_iff,Option.some.injEq,Prod.mk.injEq] at h
     obtain ⟨v',hv,rfl,rfl⟩:=h
     simp only [hcs,hsg,Option.bind_some]
     rw [if_neg hkd,hv]
     rfl
   ·rename_i hq
    simp only [Option.bind_eq_some_iff,Option.some.injEq,Prod.mk.injEq] at h
    obtain ⟨sg,hsg,v',hv,rfl,rfl⟩:=h
    simp only [hsg,hv,Option.bind_some]
    simp only [← hm]
   ·cases h
  | false =>
   simp only [opE,htk,Bool.false_eq_true,if_false,bind,Option.bind_eq_some_iff] at h
   obtain ⟨i,hi,h⟩:=h
   split at h
   ·rename_i k off hq
    simp only [Option.bind_eq_some_iff] at h
    obtain ⟨cs,hcs,sg,hsg,h⟩:=h
    split at h
    ·rename_i hdd
     simp only [Option.bind_eq_some_iff,Option.some.injEq,Prod.mk.injEq] at h
     obtain ⟨v',hv,rfl,rfl⟩:=h
     refine loc_l (by simp [clsOf,htk]) rfl rfl fun σ' hR hA=>?_
     have hx:=hE σ' hR
     obtain ⟨cs',sg',hm,hsg',hmap,hal⟩:=hA.seg hcs hsg (by rw [Bool.and_eq_true] at hdd;exact hdd.1)
     have hdd':(sg'.all (fun c=>!c.isDead) && !awayB g d f dst k)=true:=by rw [Bool.and_eq_true] at hdd ⊢; exact ⟨hal,hdd.2⟩
     simp only [opE,htk,Bool.false_eq_true,if_false,bind,hi,Option.bind_some,hx,hq,hm,hsg',hmap,hv,hdd',if_true]
    ·cases h
   ·rename_i hq
    simp only [Option.bind_eq_some_iff,Option.some.injEq,Prod.mk.injEq] at h
    obtain ⟨sg,hsg,v',hv,rfl,rfl⟩:=h
    refine loc_l (by simp [clsOf,htk]) rfl rfl fun σ' hR hA=>?_
    have hx:=hE σ' hR
    simp only [opE,bind,hi,Option.bind_some,hx,hq,hsg,hv]
   ·cases h
 | store st a x =>
  have hk:∀ t,x=.tmp t→Operand.tmp t∈(Op.store st a x).operands:=fun t e=>by simp [Op.operands,e]
  simp only [opE,bind,Option.bind_eq_some_iff] at h
  obtain ⟨i,hi,h⟩:=h
  split at h
  ·rename_i k off hq
   simp only [Option.bind_eq_some_iff] at h
   obtain ⟨cs,hcs,new,hnew,h⟩:=h
   split at h
   ·rename_i hcond
    simp only [Option.some.injEq,Prod.mk.injEq] at h
    obtain ⟨rfl,rfl⟩:=h
    refine ⟨fun u hu=>zgv fun hx=>hu ?_,trivial,fun σ' hR hA=>?_⟩
    ·simp only [takesOf];rw [zcx];exact hk u hx
    ·have hm:σ'.mem=σ.mem:=hA
     have ha:=zbk (x:=a) hR (by simp [Op.operands])
     have hx:=zbk (x:=x) hR (by simp [Op.operands])
     refine ⟨{ env:=kil σ'.env x,mem:=upd σ.mem k (some (splice cs off new)) },by simp only [opE,bind,hi,Option.bind_some,ha,hq,hm,hcs,hx,hnew];rw [if_pos hcond],fun u hu=>?_,rfl⟩
     by_cases hxu:x=.tmp u
     ·rw [hxu];exact zou
     ·show kil σ'.env x u=kil σ.env x u
      rw [zgv hxu,zgv hxu]
      simp only [takesOf] at hu;rw [zcx] at hu
      exact hR u (zkj hu)
   ·cases h
  ·cases h
 | nilCheck x =>
  simp only [opE] at h
  split at h
  all_goals first
   | cases h;done
   | (rename_i hq
      simp only [Option.some.injEq,Prod.mk.injEq] at h
      obtain ⟨rfl,rfl⟩:=h
      refine loc_p rfl rfl rfl fun σ' hR=>?_
      have hx:=zbk (x:=x) hR (by simp [Op.operands])
      simp only [opE,hx,hq])
 | lookup mt x k ok =>
  cases ok with
  | true=>simp [opE] at h
  | false =>
   simp only [opE] at h
   split at h
   ·rename_i kt e hu
    split at h
    ·rename_i hk
     rw [Option.map_eq_some_iff] at h
     obtain ⟨nc,hl,he⟩:=h
     simp only [Prod.mk.injEq] at he
     obtain ⟨rfl,rfl⟩:=he
     refine loc_p rfl rfl rfl fun σ' hR=>?_
     have h1:=zbk (x:=x) hR (by simp [Op.operands])
     have h2:=zbk (x:=k) hR (by simp [Op.operands])
     simp only [opE,hu,hk,h1,h2,hl,Option.map_some]
    ·cases h
   ·cases h
 | fieldAddr sx x fi =>
  simp only [opE,bind,Option.bind_eq_some_iff] at h
  obtain ⟨i,hi,fd,hfd,ti,hti,h⟩:=h
  split at h
  ·cases h
  ·rename_i hz
   split at h
   all_goals first
    | cases h;done
    | (rename_i hq
       simp only [Option.some.injEq,Prod.mk.injEq] at h
       obtain ⟨rfl,rfl⟩:=h
       refine loc_p rfl rfl rfl fun σ' hR=>?_
       have hx:=zbk (x:=x) hR (by simp [Op.operands])
       simp only [opE,hx,hq,bind,hi,hfd,hti,Option.bind_some,hz,if_false])
 | field sx x fi =>
  simp only [opE,bind,Option.bind_eq_some_iff] at h
  obtain ⟨i,hi,fd,hfd,ti,hti,h⟩:=h
  split at h
  ·rename_i hq
   simp only [Option.bind_eq_some_iff,Option.some.injEq,Prod.mk.injEq] at h
   obtain ⟨sg,hsg,v',hv,rfl,rfl⟩:=h
   refine loc_p rfl rfl rfl fun σ' hR=>?_
   have hx:=zbk (x:=x) hR (by simp [Op.operands])
   simp only [opE,hx,hq,bind,hi,hfd,hti,Option.bind_some,hsg,hv]
  ·cases h
 | indexAddr it x ix =>
  simp only [opE,bind,Option.bind_eq_some_iff] at h
  obtain ⟨i,hi,e,he,ei,hei,n,hn,h⟩:=h
  split at h
  ·rename_i hq
   split at h
   ·rename_i hc
    simp only [Option.some.injEq,Prod.mk.injEq] at h
    obtain ⟨rfl,rfl⟩:=h
    refine loc_p rfl rfl rfl fun σ' hR=>?_
    have hx:=zbk (x:=x) hR (by simp [Op.operands])
    have hix:=zbk (x:=ix) hR (by simp [Op.operands])
    simp only [opE,hx,hix,hq,bind,hi,he,hei,hn,Option.bind_some]
    rw [if_pos hc]
   ·cases h
  ·rename_i hq
   split at h
   ·rename_i hc
    simp only [Option.some.injEq,Prod.mk.injEq] at h
    obtain ⟨rfl,rfl⟩:=h
    refine loc_p rfl rfl rfl fun σ' hR=>?_
    have hx:=zbk (x:=x) hR (by simp [Op.operands])
    have hix:=zbk (x:=ix) hR (by simp [Op.operands])
    simp only [opE,hx,hix,hq,bind,hi,he,hei,hn,Option.bind_some]
    rw [if_pos hc]
   ·cases h
  ·cases h
 | build bt parts =>
  simp only [opE,bind,Option.bind_eq_some_iff] at h
  obtain ⟨i,hi,h⟩:=h
  split at h
  ·cases h
  rename_i hnd
  simp only [Option.bind_eq_some_iff] at h
  obtain ⟨ps,hps,h⟩:=h
  split at h
  ·cases h
  rename_i hfl
  simp only [Option.bind_eq_some_iff,Option.some.injEq,Prod.mk.injEq] at h
  obtain ⟨pl,hpl,cs,hcs,rfl,rfl⟩:=h
  refine loc_t (fun e=>parts.toList.foldl (fun e p=>kil e p.2) e) rfl rfl (fun e t ht=>zio fun p hp hx=>ht ?_) (fun e e' _ t ht=>?_) fun σ' hR=>?_
  ·simp only [takesOf];rw [zcx];simp only [Op.operands,List.mem_toArray,List.mem_map];exact ⟨p,hp,hx⟩
  ·simp only [takesOf] at ht;rw [zcx] at ht;simp only [Op.operands,List.mem_toArray,List.mem_map] at ht
   obtain ⟨p,hp,hx⟩:=ht
   rw [zia ⟨p,hp,hx⟩,zia ⟨p,hp,hx⟩]
  ·have hx:∀ p∈parts.toList,opnd σ'.env p.2=opnd σ.env p.2:=fun p hp=>zbk hR (by simp only [Op.operands,List.mem_toArray,List.mem_map];exact ⟨p,hp,rfl⟩)
   have hps':(parts.toList.mapM fun p=>(opnd σ'.env p.2).cells.map fun cs=>(p.1,cs))=some ps:=by
    rw [← hps];exact mapM_congr' fun p hp=>by rw [hx p hp]
   simp only [opE,bind,hi,Option.bind_some,hnd,if_false,Bool.false_eq_true,hps',hfl,hpl,hcs]
 | buildSlice bt len parts =>
  simp only [opE,bind,Option.bind_eq_some_iff] at h
  obtain ⟨i,hi,e,he,ei,hei,h⟩:=h
  split at h
  ·cases h
  rename_i hz
  split at h
  ·cases h
  rename_i hz2
  split at h
  ·cases h
  rename_i hnd
  simp only [Option.bind_eq_some_iff,Option.some.injEq,Prod.mk.injEq] at h
  obtain ⟨ps,hps,cs,hcs,m,hm,ds,hds,rfl,rfl⟩:=h
  refine loc_t (fun e=>parts.toList.foldl (fun e p=>kil e p.2) e) rfl rfl (fun e t ht=>zio fun p hp hx=>ht ?_) (fun e e' _ t ht=>?_) fun σ' hR=>?_
  ·simp only [takesOf];rw [zcx];simp only [Op.operands,List.mem_toArray,List.mem_map];exact ⟨p,hp,hx⟩
  ·simp only [takesOf] at ht;rw [zcx] at ht;simp only [Op.operands,List.mem_toArray,List.mem_map] at ht
   obtain ⟨p,hp,hx⟩:=ht
   rw [zia ⟨p,hp,hx⟩,zia ⟨p,hp,hx⟩]
  ·have hx:∀ p∈parts.toList,opnd σ'.env p.2=opnd σ.env p.2:=fun p hp=>zbk hR (by simp only [Op.operands,List.mem_toArray,List.mem_map];exact ⟨p,hp,rfl⟩)
   have hps':(parts.toList.mapM fun p=>(opnd σ'.env p.2).cells.map fun cs=>(p.1,cs))=some ps:=by
    rw [← hps];exact mapM_congr' fun p hp=>by rw [hx p hp]
   simp only [opE,bind,hi,he,hei,Option.bind_some,hz,hz2,hnd,if_false,Bool.false_eq_true,hps',hcs,hm,hds]
 | slice st x lo hi mx =>
  cases mx with
  | some m=>simp [opE] at h
  | none =>
   have hX:∀ σ':St,(∀ t∈readsOf ops ⟨dst,.slice st x lo hi none,ty,pos,after,guard⟩,σ'.env t=σ.env t) →
    opnd σ'.env x=opnd σ.env x∧loOf lo σ'.env=loOf lo σ.env∧(∀ n,hiOf hi σ'.env n=hiOf hi σ.env n)∧scalarOp g.P σ'.env ⟨dst,.slice st x lo hi none,ty,pos,after,guard⟩=scalarOp g.P σ.env ⟨dst,.slice st x lo hi none,ty,pos,after,guard⟩:=by
    intro σ' hR
    have hall:∀ y∈(Op.slice st x lo hi none).operands,opnd σ'.env y=opnd σ.env y:=fun y hy=>zbk hR hy
    refine ⟨hall x (by simp [Op.operands]),?_,fun n=>?_,zfk hall fun ρ ρ' hρ=>?_⟩
    ·cases lo with
     | none=>rfl
     | some y=>simp only [loOf,hall y (by simp [Op.operands])]
    ·cases hi with
     | none=>rfl
     | some y=>simp only [hiOf,hall y (by simp [Op.operands])]
    ·have h1:ρ' x=ρ x:=hρ x (by simp [Op.operands])
     have h2:lo.map ρ'=lo.map ρ:=by
      cases lo with
      | none=>rfl
      | some y=>simp [hρ y (by simp [Op.operands])]
     have h3:hi.map ρ'=hi.map ρ:=by
      cases hi with
      | none=>rfl
      | some y=>simp [hρ y (by simp [Op.operands])]
     simp only [execOp,h1,h2,h3]
     rfl
   simp only [opE,bind] at h
   split at h
   ·rename_i hq
    simp only [Option.bind_eq_some_iff] at h
    obtain ⟨i,hi',e,he,ei,hei,l,hl,hh,hhh,h⟩:=h
    split at h
    ·rename_i hc
     simp only [Option.some.injEq,Prod.mk.injEq] at h
     obtain ⟨rfl,rfl⟩:=h
     refine loc_p rfl rfl rfl fun σ' hR=>?_
     obtain ⟨h1,h2,h3,h4⟩:=hX σ' hR
     simp only [opE,bind,h1,hq,hi',he,hei,Option.bind_some,h2,hl,h3,hhh]
     rw [if_pos hc]
    ·cases h
   ·rename_i hq
    simp only [Option.bind_eq_some_iff,Option.some.injEq,Prod.mk.injEq] at h
    obtain ⟨u,hu,rfl,rfl⟩:=h
    refine loc_p rfl rfl rfl fun σ' hR=>?_
    obtain ⟨h1,h2,h3,h4⟩:=hX σ' hR
    simp only [opE,bind,h1]
    rw [h4,hu]
    rfl
 | makeFunc fn first caps =>
  cases fn with
  | func k =>
   simp only [opE,bind] at h
   split at h
   ·rename_i hf
    simp only [Option.bind_eq_some_iff,Option.some.injEq,Prod.mk.injEq] at h
    obtain ⟨cs,hcs,rfl,rfl⟩:=h
    refine loc_p rfl rfl rfl fun σ' hR=>?_
    simp only [opE,bind]
    rw [if_pos hf,Option.bind_eq_some_iff]
    refine ⟨cs,?_,rfl⟩
    rw [← hcs]
    refine mapM_congr' fun x hx=>?_
    rw [zbk hR (by simp only [Op.operands];exact Array.mem_append_right _ (by simpa using hx))]
   ·cases h
  | _=>simp [opE] at h
 | makeSlice mt l c =>
  simp only [opE,bind,Option.bind_eq_some_iff] at h
  obtain ⟨i,hi,e,he,ei,hei,n,hn,cp,hcp,h⟩:=h
  split at h
  ·cases h
  rename_i hz
  split at h
  ·rename_i hc
   have h1:∀ σ':St,(∀ t∈readsOf ops ⟨dst,.makeSlice mt l c,ty,pos,after,guard⟩,σ'.env t=σ.env t)→opnd σ'.env l=opnd σ.env l∧opnd σ'.env c=opnd σ.env c:=fun σ' hR =>
    ⟨zbk (x:=l) hR (by simp [Op.operands]),zbk (x:=c) hR (by simp [Op.operands])⟩
   cases htk:g.tk f dst with
   | true =>
    have hcl:clsOf g f ⟨dst,.makeSlice mt l c,ty,pos,after,guard⟩=.a:=by simp [clsOf,htk]
    simp only [htk,if_true,Option.bind_eq_some_iff] at h
    obtain ⟨t,ht,h⟩:=h
    split at h
    ·cases h
    ·rename_i hm
     simp only [Option.some.injEq,Prod.mk.injEq] at h
     obtain ⟨rfl,rfl⟩:=h
     obtain ⟨hm',htK⟩:σ.mem (d,t)=none∧¬ t=deepK:=by simpa using hm
     subst ht
     refine ⟨fun _ _=>rfl,by rw [hcl];exact ⟨hm',_,rfl⟩,fun σ' hR hA=>?_⟩
     rw [hcl] at hA ⊢
     have hA':σ'.mem (d,t)=none:=hA
     obtain ⟨e1,e2⟩:=h1 σ' hR
     refine ⟨{ σ' with mem:=upd σ'.mem (d,t) (some ((List.replicate n.toNat (ei.zero.map C.ofValue)).flatten)) },?_,fun t ht=>by simp [takesOf] at ht,?_⟩
     ·simp only [opE,bind,hi,he,hei,e1,e2,hn,hcp,Option.bind_some,htk,if_true,hA',Option.isSome_none,Bool.false_or,beq_eq_false_iff_ne.2 htK,Bool.false_eq_true,if_false]
      rw [if_neg hz,if_pos hc]
     ·show upd σ'.mem (d,t) _ (d,t)=upd σ.mem (d,t) _ (d,t)
      simp [upd]
   | false =>
    simp only [htk,Bool.false_eq_true,if_false,Option.bind_eq_some_iff,Option.some.injEq,Prod.mk.injEq] at h
    obtain ⟨zd,hzd,rfl,rfl⟩:=h
    refine loc_p (by simp [clsOf,htk]) rfl rfl fun σ' hR=>?_
    obtain ⟨e1,e2⟩:=h1 σ' hR
    simp only [opE,bind,hi,he,hei,e1,e2,hn,hcp,Option.bind_some,htk,Bool.false_eq_true,if_false]
    rw [if_neg hz,if_pos hc,hzd]
    rfl
  ·cases h
 | call cl =>
  obtain ⟨callee,args,argTypes⟩:=cl
  cases callee with
  | value _=>simp [opE] at h
  | invoke _ _=>simp [opE] at h
  | builtin bi =>
   have hall:∀ σ':St,(∀ t∈readsOf ops ⟨dst,.call ⟨.builtin bi,args,argTypes⟩,ty,pos,after,guard⟩,σ'.env t=σ.env t)→∀ y∈args.toList,opnd σ'.env y=opnd σ.env y :=
    fun σ' hR y hy=>zbk hR (by simp only [Op.operands,Call.operands];exact Array.mem_append_right _ (by simpa using hy))
   have hsc:∀ σ':St,(∀ t∈readsOf ops ⟨dst,.call ⟨.builtin bi,args,argTypes⟩,ty,pos,after,guard⟩,σ'.env t=σ.env t) →
    scalarOp g.P σ'.env ⟨dst,.call ⟨.builtin bi,args,argTypes⟩,ty,pos,after,guard⟩=scalarOp g.P σ.env ⟨dst,.call ⟨.builtin bi,args,argTypes⟩,ty,pos,after,guard⟩:=by
    intro σ' hR
    refine zfk (fun y hy=>zbk hR hy) fun ρ ρ' hρ=>?_
    have:args.map ρ'=args.map ρ:=Array.map_congr_left fun y hy=>hρ y (by simp only [Op.operands,Call.operands];exact Array.mem_append_right _ hy)
    simp only [execOp,resolve,this]
   have hsplit:∀ y:Option Value,True:=fun _=>trivial
   cases bi with
   | len =>
    simp only [opE,bind] at h
    split at h
    ·rename_i hq
     simp only [Option.bind_eq_some_iff,Option.some.injEq,Prod.mk.injEq] at h
     obtain ⟨t,ht,i,hi,e,he,rfl,rfl⟩:=h
     refine loc_p rfl rfl rfl fun σ' hR=>?_
     have h1:args.toList.map (opnd σ'.env)=args.toList.map (opnd σ.env):=List.map_congr_left (hall σ' hR)
     simp only [opE,bind,h1,hq,ht,hi,he,Option.bind_some]
    ·rename_i hq
     simp only [Option.bind_eq_some_iff,Option.some.injEq,Prod.mk.injEq] at h
     obtain ⟨t,ht,i,hi,e,he,rfl,rfl⟩:=h
     refine loc_p rfl rfl rfl fun σ' hR=>?_
     have h1:args.toList.map (opnd σ'.env)=args.toList.map (opnd σ.env):=List.map_congr_left (hall σ' hR)
     simp only [opE,bind,h1,hq,ht,hi,he,Option.bind_some]
    ·rename_i hq
     simp only [Option.bind_eq_some_iff,Option.some.injEq,Prod.mk.injEq] at h
     obtain ⟨u,hu,rfl,rfl⟩:=h
     refine loc_p rfl rfl rfl fun σ' hR=>?_
     have h1:args.toList.map (opnd σ'.env)=args.toList.map (opnd σ.env):=List.map_congr_left (hall σ' hR)
     simp only [opE,bind,h1]
     rw [hsc σ' hR,hu]
     rfl
   | append =>
    simp only [opE,bind] at h
    split at h
    ·rename_i x y hxy
     simp only [Option.bind_eq_some_iff] at h
     obtain ⟨t,ht,i,hi,e,he,ei,hei,h⟩:=h
     split at h
     ·cases h
     rename_i hc
     split at h
     ·rename_i hqx hqy
      split at h
      ·cases h
      rename_i hm
      split at h
      ·cases h
      rename_i hb
      simp only [Option.bind_eq_some_iff,Option.some.injEq,Prod.mk.injEq] at h
      obtain ⟨m',hm',rfl,rfl⟩:=h
      have hmx:x∈args.toList:=by rw [hxy];simp
      have hmy:y∈args.toList:=by rw [hxy];simp
      have hop:∀ z∈args.toList,z∈(Op.call ⟨.builtin .append,args,argTypes⟩).operands:=fun z hz=>by simp only [Op.operands,Call.operands];exact Array.mem_append_right _ (by simpa using hz)
      refine loc_t (fun e=>kil (kil e x) y) rfl rfl (fun e t ht=>?_) (fun e e' _ t ht=>?_) fun σ' hR=>?_
      ·have hx:x≠.tmp t:=fun hx=>ht (by simp only [takesOf];rw [zcx];rw [← hx];exact hop x hmx)
       have hy:y≠.tmp t:=fun hy=>ht (by simp only [takesOf];rw [zcx];rw [← hy];exact hop y hmy)
       rw [zgv hy,zgv hx]
      ·simp only [takesOf] at ht;rw [zcx] at ht
       simp only [Op.operands,Call.operands,Array.mem_append] at ht
       have ht:Operand.tmp t∈args.toList:=by simpa using ht
       rw [hxy] at ht
       simp only [List.mem_cons,List.not_mem_nil,or_false] at ht
       by_cases hy:y=.tmp t
       ·rw [hy];exact zou
       ·have hx:x=.tmp t:=by rcases ht with ht | ht;exact ht.symm;exact absurd ht.symm hy
        rw [zgv hy,zgv hy,hx];exact zou
      ·have h1:=hall σ' hR x hmx
       have h2:=hall σ' hR y hmy
       simp only [opE,bind,hxy,ht,hi,he,hei,Option.bind_some,h1,h2,hqx,hqy]
       rw [if_neg hc,if_neg hm,if_neg hb,hm']
       rfl
     ·cases h
    ·cases h
   | _ =>
    simp only [opE,bind,Option.bind_eq_some_iff,Option.some.injEq,Prod.mk.injEq] at h
    obtain ⟨u,hu,rfl,rfl⟩:=h
    refine loc_p rfl rfl rfl fun σ' hR=>?_
    simp only [opE,bind,hsc σ' hR,hu,Option.bind_some]
 | binOp b xt x y yt =>
  simp only [opE,bind,Option.bind_eq_some_iff,Option.some.injEq,Prod.mk.injEq] at h
  obtain ⟨u,hu,rfl,rfl⟩:=h
  refine loc_p rfl rfl rfl fun σ' hR=>?_
  have:=zfk (P:=g.P) (o:=⟨dst,.binOp b xt x y yt,ty,pos,after,guard⟩) (fun y hy=>zbk hR hy) fun ρ ρ' hρ=>by
   simp only [execOp,hρ x (by simp [Op.operands]),hρ y (by simp [Op.operands])]
  simp only [opE,bind,this,hu,Option.bind_some]
 | unOp b xt x =>
  simp only [opE,bind,Option.bind_eq_some_iff,Option.some.injEq,Prod.mk.injEq] at h
  obtain ⟨u,hu,rfl,rfl⟩:=h
  refine loc_p rfl rfl rfl fun σ' hR=>?_
  have:=zfk (P:=g.P) (o:=⟨dst,.unOp b xt x,ty,pos,after,guard⟩) (fun y hy=>zbk hR hy) fun ρ ρ' hρ=>by
   simp only [execOp,hρ x (by simp [Op.operands])]
  simp only [opE,bind,this,hu,Option.bind_some]
 | convert b xt x =>
  simp only [opE,bind,Option.bind_eq_some_iff,Option.some.injEq,Prod.mk.injEq] at h
  obtain ⟨u,hu,rfl,rfl⟩:=h
  refine loc_p rfl rfl rfl fun σ' hR=>?_
  have:=zfk (P:=g.P) (o:=⟨dst,.convert b xt x,ty,pos,after,guard⟩) (fun y hy=>zbk hR hy) fun ρ ρ' hρ=>by
   simp only [execOp,hρ x (by simp [Op.operands])]
  simp only [opE,bind,this,hu,Option.bind_some]
 | index xt x ix =>
  simp only [opE,bind,Option.bind_eq_some_iff,Option.some.injEq,Prod.mk.injEq] at h
  obtain ⟨u,hu,rfl,rfl⟩:=h
  refine loc_p rfl rfl rfl fun σ' hR=>?_
  have:=zfk (P:=g.P) (o:=⟨dst,.index xt x ix,ty,pos,after,guard⟩) (fun y hy=>zbk hR hy) fun ρ ρ' hρ=>by
   simp only [execOp,hρ x (by simp [Op.operands]),hρ ix (by simp [Op.operands])]
  simp only [opE,bind,this,hu,Option.bind_some]
 | _=>simp [opE] at h

end Go.Ev

