import Derived.Test.YtfcfpdcjepobpaaGreatEvA1
import Derived.Great.BuildSlice
import Derived.Laws.AppendOwn
set_option linter.unusedSimpArgs false
set_option linter.unusedVariables false
set_option linter.unnecessarySimpa false
noncomputable section
namespace Go.Ev
section
variable {g:Cfg} {d N:Nat} {G:Gh} {σ:St} {w:World} {a:Act} {dst:Option Nat} {ty:TypeId} {pos:String} {after:Array Edge} {guard:Option (Nat × Bool)}

theorem zge {α:Type} (l:List α):∀ (n j:Nat),j < n * l.length→((List.replicate n l).flatten)[j]?=l[j % l.length]?
 | 0,j,h=>by omega
 | n+1,j,h=>by
  rw [List.replicate_succ,List.flatten_cons,List.getElem?_append]
  split
  ·rename_i hlt;rw [Nat.mod_eq_of_lt hlt]
  ·rename_i hge
   have hlt:j - l.length < n * l.length:=by rw [Nat.add_mul] at h;omega
   rw [zge l n _ hlt]
   congr 1
   rw [← Nat.mod_eq_sub_mod (by omega)]

theorem zby {α:Type} (l:List α) (n:Nat):((List.replicate n l).flatten).length=n * l.length:=by
 simp

theorem zmo {P:Program} {t:Nat} {i:TI} (h:ti P t=some i):∃ info,P.info? t=some info∧info.size=i.size∧info.bytes=i.bytes∧∃ z,info.zero=some z∧i.zero=z.cells.toList:=by
 obtain ⟨info,dd,z,h1,_,h3,h4,h5,_,_,_,h8⟩:=zjn h
 exact ⟨info,h1,h4.symm,h5.symm,z,h3,h8⟩

theorem znl {P:Program}:∀ (fs:List Field) (pl:List (Nat × Nat)),(fs.map fun f=>(f.offset,f.type)).mapM (fun fd=>(ti P fd.2).map fun fi=>(fd.1,fi.size))=some pl →
 fs.mapM (fun f=>(P.info? f.type).map fun i=>(f.offset,i.size))=some pl
 | [],pl,h=>by simpa using h
 | f :: fs,pl,h=>by
  rw [List.map_cons,List.mapM_cons] at h
  cases ht:ti P f.type with
  | none=>rw [ht] at h;simp at h
  | some fi =>
   rw [ht] at h
   simp only [Option.map_some,bind,pure,Option.bind] at h
   split at h
   ·cases h
   ·rename_i pl' hpl'
    cases h
    obtain ⟨info,h1,h2,_⟩:=zmo ht
    have ih:=znl fs pl' hpl'
    rw [List.mapM_cons,h1,ih]
    simp [h2]

theorem ok_build (h:Sim d N G σ a.tmps w) (hd:dst.all (· < N)=true) (t:TypeId) (parts:Array (Nat × Operand)) {i:TI} (hi:ti g.P t=some i) (hn:nodup (tmpsOf (parts.toList.map (·.2)))=true) {ps:List (Nat × List C)}
 (hps:(parts.toList.mapM fun p=>(opnd σ.env p.2).cells.map fun cs=>(p.1,cs))=some ps) (hfl:i.flds.isEmpty=false) {pl:List (Nat × Nat)} (hpl:i.flds.mapM (fun fd=>(ti g.P fd.2).map fun fi=>(fd.1,fi.size))=some pl)
 {cs:List C} (hf:fillC (fun j=>pl[j]?) (i.zero.map C.ofValue) ps=some cs) :
 OpOK g.P d N G w a { dst,op:=.build t parts,type:=ty,pos,after,guard } { σ with env:=parts.toList.foldl (fun e p=>kil e p.2) σ.env } (.ag cs):=by
 obtain ⟨info,dd,z,h1,h2,h3,_,_,_,_,h7,h8⟩:=zjn hi
 have hst:∃ fs,dd=.struct fs:=by
  cases dd <;> first | exact ⟨_,rfl⟩ | (exfalso;simp at h7;rw [h7] at hfl;simp at hfl)
 obtain ⟨fs,rfl⟩:=hst
 simp only at h7
 rw [h7] at hpl
 have hmp:=znl fs.toList pl hpl
 have hbase:∀ t' G',Rel (fun j c v=>RC w G' (.slot d t') [j] c v) (i.zero.map C.ofValue) z.cells.toList:=by
  intro t' G'
  rw [h8]
  have:=zjz (w:=w) (G:=G') (o:=.slot d t') (p:=[]) (i:=0) z.cells.toList
  exact ⟨this.1,fun j c hj=>by obtain ⟨y,hy,hr⟩:=this.2 j c hj;exact ⟨y,hy,by simpa using hr⟩⟩
 have fin:∀ t',(∀ x,dst=some x→x=t')→OpOK g.P d N G w a { dst,op:=.build t parts,type:=ty,pos,after,guard } { σ with env:=parts.toList.foldl (fun e p=>kil e p.2) σ.env } (.ag cs):=by
  intro t' ht'
  obtain ⟨G',hS,hF,arr,hfill,hrel⟩:=sim_parts h (fun j=>pl[j]?) parts.toList hn hps t' (hbase t') hf
  refine OpOK.mk (r:=.agg arr) hd ?_ hF hS fun x hx=>?_
  ·have hb:g.P.built t (parts.map fun (i,x)=>(i,a.eval x)).toList=some arr:=by
    unfold Program.built
    simp only [h1,h2,h3,hmp]
    rw [← hfill]
    congr 1
    ·funext x;simp
    ·simp
   simp only [execOp,Sem.run_bind,run_build w t _ arr hb,Result.andThen_ok]
   rfl
  ·obtain rfl:=ht' x hx
   exact ⟨arr,rfl,hrel.1,fun j c hj=>by obtain ⟨y,hy,hr⟩:=hrel.2 j c hj;exact ⟨y,hy,by simpa using hr⟩⟩
 cases dst with
 | none=>exact fin 0 (fun x hx=>by cases hx)
 | some t'=>exact fin t' (fun x hx=>by cases hx;rfl)

theorem zoc {o:Ow} {m:Md} (hm:m.isOwn=true) {n es cap:Nat} {ds:List D} {b:Nat} {arr:Array Value} {e:TypeId} (hb:w.heap[b]?=some (.cells arr e (0,0))) (ho:G.own b=some (.at o [])) (hu:G.use b=ds.length)
 (hlen:ds.length=n * es) (hes:0 < es) (hcap:n≤cap) (hroom:cap * es≤arr.size) (h0:n=0→cap=0)
 (hc:∀ (j:Nat) x,ds[j]?=some x→∃ v,arr[j]?=some v∧RD w G o m.elem [j] x v):RD w G o m [] (.sl n ds) (.slice (some ⟨b,0,none⟩) n cap):=by
 rw [RD]
 by_cases hn:n=0
 ·left
  subst hn
  exact ⟨List.eq_nil_of_length_eq_zero (by simpa using hlen),rfl,_,cap,rfl,fun _=>h0 rfl⟩
 ·right
  refine ⟨by rintro rfl;rcases Nat.mul_eq_zero.1 hlen.symm with hx | hx <;> omega,by omega,b,0,cap,rfl,hcap,?_,zlb fun j x hj=>?_⟩
  ·have hh:G.own b=some (.at o [])∧0+ds.length=G.use b∧0=0∧∃ arr e,w.heap[b]?=some (.cells arr e (0,0))∧∀ sz,ds.length=n * sz→0+cap * sz≤arr.size:=by
    refine ⟨ho,by omega,rfl,arr,e,hb,fun sz hsz=>?_⟩
    have:sz=es:=by
     rw [hlen] at hsz
     exact (Nat.eq_of_mul_eq_mul_left (by omega) hsz).symm
    subst this
    omega
   cases m <;> first | exact hh | simp [Md.isOwn] at hm
  ·obtain ⟨v,hv,hr⟩:=hc j x hj
   refine ⟨v,?_,by simpa using hr⟩
   rw [zjh hb]
   simpa using hv

theorem Sim.newRow {tm:Array Value} (h:Sim d N G σ tm w) (arr:Array Value) (e:TypeId) (t u:Nat) :
 Sim d N (newG G w.heap.size (some (.at (.slot d t) [])) u) σ tm (w.alloc (.cells arr e))∧Frm d G w (newG G w.heap.size (some (.at (.slot d t) [])) u) (w.alloc (.cells arr e)):=by
 have hH:=zkg G w (.cells arr e) (some (.at (.slot d t) [])) u G.β G.cap G.live (fun k hk=>⟨hk,rfl,rfl⟩)
 refine ⟨{ sz:=h.sz,env:=fun t=>(hH _ _).ra0 (h.env t),mem:=fun k2 cs2 hk2 hn2=>?_,live:=h.live,dep:=h.dep,wf:=?_,wfb:=?_,wfc:=?_,age:=h.age,fut:=fun b hb=>h.fut b (by rw [World.size_alloc] at hb;omega),aged:=?_,jump:=h.jump },newG_frm d G w _ _ _ _ _ _ _ (fun _ h=>⟨h,rfl,rfl⟩) (fun _ _ h=>h)⟩
 ·obtain ⟨arr2,e2,h1,h2,h2c,h3⟩:=h.mem k2 cs2 hk2 hn2
  have hlt:G.β k2 < w.heap.size:=h.wf _ _ h2
  have hne:G.β k2≠w.heap.size:=Nat.ne_of_lt hlt
  refine ⟨arr2,e2,?_,?_,h2c,(hH _ _).rcs0 h3⟩
  ·show (w.alloc _).heap[G.β k2]?=_;rw [zfz w _ hlt];exact h1
  ·show upd G.own _ _ (G.β k2)=_;simp only [upd,hne,if_false];exact h2
 ·intro b t2 hb
  have hb':upd G.own w.heap.size (some (.at (.slot d t) [])) b=some t2:=hb
  rw [World.size_alloc]
  unfold upd at hb'
  split at hb'
  ·omega
  ·exact Nat.lt_succ_of_lt (h.wf b t2 hb')
 ·intro b k2 hb
  have hb':upd G.own w.heap.size (some (.at (.slot d t) [])) b=some (.box k2):=hb
  unfold upd at hb'
  split at hb'
  ·cases hb'
  ·exact h.wfb b k2 hb'
 ·intro b k2 p hb
  have hb':upd G.own w.heap.size (some (.at (.slot d t) [])) b=some (.at (.cell k2) p):=hb
  unfold upd at hb'
  split at hb'
  ·cases hb'
  ·exact h.wfc b k2 p hb'
 ·intro b t2 hb
  have hb':upd G.own w.heap.size (some (.at (.slot d t) [])) b=some t2:=hb
  unfold upd at hb'
  split at hb'
  ·rename_i hbe
   cases hb'
   subst hbe
   show d≤G.age _
   rw [h.fut _ (Nat.le_refl _)]
   exact Nat.le_refl _
  ·exact h.aged b t2 hb'

theorem toD_own {o:Ow} {p:List Nat} {c:C} {x:D} {v:Value} (hx:c.toD=some x) (ho:c.ownD=true) (h:RC w G o p c v):RD w G o .own p x v:=by
 cases c with
 | s u=>simp only [C.toD,Option.some.injEq] at hx;subst hx;rw [RD];exact h
 | l m n cs =>
  simp only [C.toD,Option.some.injEq] at hx
  subst hx
  cases m <;> first | exact h | simp [C.ownD] at ho
 | _=>simp [C.toD] at hx

theorem toD_shr {o:Ow} {p:List Nat} {c:C} {x:D} {v:Value} (hx:c.toD=some x) (ho:c.shrD=true) (h:RC w G o p c v):RD w G o .shr p x v:=by
 cases c with
 | s u=>simp only [C.toD,Option.some.injEq] at hx;subst hx;rw [RD];exact h
 | l m n cs =>
  simp only [C.toD,Option.some.injEq] at hx
  subst hx
  cases m <;> first | exact h | simp [C.shrD] at ho
 | _=>simp [C.toD] at hx

theorem zkh {o:Ow} {p:List Nat} {cs:List C} {m:Md} (hm:modeOf cs=some m):m.isOwn=true∧∀ c∈cs,∀ x v,c.toD=some x→RC w G o p c v→RD w G o m.elem p x v:=by
 unfold modeOf at hm
 split at hm
 ·rename_i h1
  cases hm
  exact ⟨rfl,fun c hc x v hx hr=>toD_own hx (List.all_eq_true.1 h1 c hc) hr⟩
 ·split at hm
  ·rename_i h1
   cases hm
   exact ⟨rfl,fun c hc x v hx hr=>toD_shr hx (List.all_eq_true.1 h1 c hc) hr⟩
  ·cases hm

theorem zmg:∀ {cs:List C} {ds:List D},cs.mapM C.toD=some ds→ds.length=cs.length∧∀ (j:Nat) x,ds[j]?=some x→∃ c,cs[j]?=some c∧c.toD=some x
 | [],ds,h=>by simp at h;subst h;exact ⟨rfl,fun j x hj=>by simp at hj⟩
 | c :: cs,ds,h=>by
  rw [List.mapM_cons] at h
  cases hc:c.toD with
  | none=>rw [hc] at h;simp at h
  | some y =>
   rw [hc] at h
   simp only [bind,pure,Option.bind] at h
   split at h
   ·cases h
   ·rename_i ds' hds'
    cases h
    obtain ⟨h1,h2⟩:=zmg hds'
    refine ⟨by simp [h1],fun j x hj=>?_⟩
    cases j with
    | zero=>cases hj;exact ⟨c,rfl,hc⟩
    | succ j=>exact h2 j x hj

theorem zlx {place:Nat→Option (Nat × Nat)}:∀ {ps:List (Nat × List C)} {cs cs':List C},fillC place cs ps=some cs'→cs'.length=cs.length
 | [],cs,cs',h=>by simp only [fillC,Option.some.injEq] at h;rw [h]
 | (i,pc) :: ps,cs,cs',h=>by
  simp only [fillC] at h
  cases hp:place i with
  | none=>rw [hp] at h;cases h
  | some os =>
   obtain ⟨off,size⟩:=os
   rw [hp] at h
   simp only at h
   split at h
   ·rename_i hsz
    rw [zlx h,zas _ _ _ (by omega)]
   ·cases h

theorem made_rel {Q:Nat→C→Value→Prop} {z:Value} {size len:Nat} (hz:z.cells.size=size) (hpos:0 < size) (hQ:∀ j (u:Value),Q j (C.ofValue u) u) :
 Rel Q ((List.replicate len (z.cells.toList.map C.ofValue)).flatten) ((Array.range (len * size)).map (z.cells[· % z.cells.size]!)).toList:=by
 have hl:(z.cells.toList.map C.ofValue).length=size:=by rw [List.length_map,Array.length_toList,hz]
 refine ⟨by rw [zby,hl];simp,fun j c hj=>?_⟩
 have hjl:j < len * size:=by
  rcases Nat.lt_or_ge j (len * size) with hlt | hge
  ·exact hlt
  ·rw [List.getElem?_eq_none (by rw [zby,hl];exact hge)] at hj;cases hj
 rw [zge _ _ _ (by rw [hl];exact hjl),hl,List.getElem?_map] at hj
 have hm:j % size < z.cells.size:=by rw [hz];exact Nat.mod_lt _ hpos
 rw [Array.getElem?_toList,Array.getElem?_eq_getElem hm] at hj
 simp only [Option.map_some,Option.some.injEq] at hj
 refine ⟨z.cells[j % size],?_,by rw [← hj];exact hQ _ _⟩
 rw [Array.getElem?_toList,Array.getElem?_map]
 have hm':j % size < z.cells.size:=hm
 simp only [hz]
 rw [Array.getElem?_range,if_pos hjl]
 simp only [Option.map_some,Option.some.injEq]
 exact getElem!_pos z.cells (j % size) hm'

theorem zqa (h:Sim d N G σ a.tmps w) (hd:dst.all (· < N)=true) (t:TypeId) (len:Nat) (parts:Array (Nat × Operand)) {i ei:TI} {e:Nat} (hi:ti g.P t=some i) (he:i.elem=some e) (hei:ti g.P e=some ei)
 (hlen:¬ (len * ei.size > 16777216∨ei.size=0)) (hzl:¬ (ei.zero.map C.ofValue).length≠ei.size) (hn:nodup (tmpsOf (parts.toList.map (·.2)))=true) {ps:List (Nat × List C)}
 (hps:(parts.toList.mapM fun p=>(opnd σ.env p.2).cells.map fun cs=>(p.1,cs))=some ps)
 {cs:List C} (hf:fillC (fun j=>some (j * ei.size,ei.size)) ((List.replicate len (ei.zero.map C.ofValue)).flatten) ps=some cs) {m:Md} (hm:modeOf cs=some m) {ds:List D} (hds:cs.mapM C.toD=some ds) :
 OpOK g.P d N G w a { dst,op:=.buildSlice t len parts,type:=ty,pos,after,guard } { σ with env:=parts.toList.foldl (fun e p=>kil e p.2) σ.env } (.one (.l m len ds)):=by
 obtain ⟨info,h1,h2,_,z,h3,h4⟩:=zmo hei
 have hzs:z.cells.size=ei.size:=by
  rw [h4,List.length_map,Array.length_toList] at hzl
  omega
 have hpos:0 < ei.size:=by omega
 have fin:∀ t',(∀ x,dst=some x→x=t')→OpOK g.P d N G w a { dst,op:=.buildSlice t len parts,type:=ty,pos,after,guard } { σ with env:=parts.toList.foldl (fun e p=>kil e p.2) σ.env } (.one (.l m len ds)):=by
  intro t' ht'
  rw [h4] at hf
  have hbase:∀ G',Rel (fun j c v=>RC w G' (.slot d t') [j] c v) ((List.replicate len (z.cells.toList.map C.ofValue)).flatten) ((Array.range (len * ei.size)).map (z.cells[· % z.cells.size]!)).toList :=
   fun G'=>made_rel hzs hpos fun j u=>zho u
  obtain ⟨G',hS,hF,arr,hfill,hrel⟩:=sim_parts h _ parts.toList hn hps t' hbase hf
  obtain ⟨hS2,hF2⟩:=hS.newRow arr e t' ds.length
  have hH:=zkg G' w (.cells arr e) (some (.at (.slot d t') [])) ds.length G'.β G'.cap G'.live (fun k hk=>⟨hk,rfl,rfl⟩)
  obtain ⟨hl1,hl2⟩:=zmg hds
  have hcl:cs.length=len * ei.size:=by rw [zlx hf,zby,List.length_map,Array.length_toList,hzs]
  refine OpOK.mk (r:=.slice (some ⟨w.heap.size,0,none⟩) len len) hd ?_ (hF.trans hF2) hS2 fun x hx=>?_
  ·have hz0:¬ (len * info.size > 2 ^ 24):=by rw [h2];omega
   have hfill':Instr.fill (fun i=>some (i * info.size,info.size)) ((Array.range (len * info.size)).map ((if len * info.size=0 then #[] else z.cells)[· % (if len * info.size=0 then (#[]:Array Value) else z.cells).size]!)) (parts.toList.map fun p=>(p.1,a.eval p.2))=some arr:=by
    rw [h2,← hfill]
    congr 1
    split
    ·rename_i h0;rw [h0];simp
    ·rfl
   simp only [execOp,Sem.run_bind]
   have:(Instr.buildSlice t len (parts.map fun x=>match x with | (i,x)=>(i,a.eval x))).run g.P w=.ok (.slice (some ⟨w.heap.size,0,none⟩) len len) (w.alloc (.cells arr e)):=by
    have hpt:(parts.map fun x=>match x with | (i,x)=>(i,a.eval x)).toList=parts.toList.map fun p=>(p.1,a.eval p.2):=by rw [Array.toList_map]
    simp only [Instr.buildSlice,Sem.run_bind,run_underlying (zhp hi he),Result.andThen_ok,zih hei]
    rw [← h2]
    by_cases h0:len * info.size=0
    ·have hl0:len=0:=by rcases Nat.mul_eq_zero.1 h0 with hx | hx <;> omega
     subst hl0
     have hr0:(Array.range 0) = #[]:=rfl
     simp only [Nat.zero_mul,if_true,hr0] at hfill'
     have hfill2:Instr.fill (fun i=>some (i * info.size,info.size)) #[] (parts.toList.map fun p=>(p.1,a.eval p.2))=some arr:=by simpa using hfill'
     simp [hr0,hfill2,newRow]
    ·simp only [h0,if_false] at hfill'
     have hz0':¬ (16777216 < len * info.size):=by omega
     simp [h0,hz0',zeroValue,typeInfo,h1,h3,hfill',newRow]
   rw [this]
   rfl
  ·obtain rfl:=ht' x hx
   obtain ⟨hmo,hme⟩:=zkh (w:=w) (G:=G') (o:=.slot d x) hm (p:=[])
   refine zoc (es:=ei.size) hmo (zhd w _) (by show upd _ _ _ _=_;simp [upd]) (by show upd _ _ _ _=_;simp [upd]) (by rw [hl1,hcl]) hpos (Nat.le_refl _) ?_ (fun h=>h) fun j y hj=>?_
   ·have:=hrel.1
    rw [Array.length_toList,hcl] at this
    omega
   ·obtain ⟨c,hc,hcy⟩:=hl2 j y hj
    obtain ⟨v,hv,hr⟩:=hrel.2 j c hc
    obtain ⟨_,hme⟩:=zkh (w:=w) (G:=G') (o:=.slot d x) hm (p:=[j])
    refine ⟨v,by rw [← Array.getElem?_toList];exact hv,?_⟩
    exact (hH (.slot d x) [j]).toHand.rd (hme c (List.mem_of_getElem? hc) y v hcy hr)
 cases dst with
 | none=>exact fin 0 (fun x hx=>by cases hx)
 | some t'=>exact fin t' (fun x hx=>by cases hx;rfl)

theorem ok_makeSlice (h:Sim d N G σ a.tmps w) (hd:dst.all (· < N)=true) (t:TypeId) (l c:Operand) {i ei:TI} {e:Nat} (hi:ti g.P t=some i) (he:i.elem=some e) (hei:ti g.P e=some ei) {n cp:Int}
 (hl:toInt (opnd σ.env l)=some n) (hc:toInt (opnd σ.env c)=some cp) (hz:¬ ((ei.zero.map C.ofValue).length≠ei.size∨ei.size=0)) (hb:0≤n∧cp=n∧n * (ei.bytes+1)≤maxBytes) {zd:List D}
 (hzd:(ei.zero.map C.ofValue).mapM C.toD=some zd) :
 OpOK g.P d N G w a { dst,op:=.makeSlice t l c,type:=ty,pos,after,guard } σ (.one (.l .own n.toNat ((List.replicate n.toNat zd).flatten))):=by
 obtain ⟨info,h1,h2,h2b,z,h3,h4⟩:=zmo hei
 have hzs:z.cells.size=ei.size:=by rw [h4,List.length_map,Array.length_toList] at hz;omega
 have hpos:0 < ei.size:=by omega
 obtain ⟨hn0,rfl,hbytes⟩:=hb
 obtain ⟨hz1,hz2⟩:=zmg hzd
 have hzl:zd.length=ei.size:=by rw [hz1,h4,List.length_map,Array.length_toList,hzs]
 have hll:=zgz hl (h.opnd l)
 have hcc:=zgz hc (h.opnd c)
 have hN:(cp.toNat:Int)=cp:=Int.toNat_of_nonneg hn0
 have hbound:cp * ((ei.bytes:Int)+1)≤70368744177664:=by simpa [maxBytes] using hbytes
 have hb1:(info.bytes:Int) * cp≤281474976710656:=by
  rw [h2b,Int.mul_comm]
  have h5:cp * ((ei.bytes:Int)+1)=cp * (ei.bytes:Int)+cp:=by rw [Int.mul_add,Int.mul_one]
  omega
 have hb2:cp≤9223372036854775807:=by
  have h5:cp * ((ei.bytes:Int)+1)=cp * (ei.bytes:Int)+cp:=by rw [Int.mul_add,Int.mul_one]
  have h6:0≤cp * (ei.bytes:Int):=Int.mul_nonneg hn0 (by omega)
  omega
 have hrun:=run_make (P:=g.P) w t e info z (zhp hi he) h1 h3 .i64 .i64 cp cp hn0 (Int.le_refl _) hb1 hb2
 have fin:∀ t',(∀ x,dst=some x→x=t')→OpOK g.P d N G w a { dst,op:=.makeSlice t l c,type:=ty,pos,after,guard } σ (.one (.l .own cp.toNat ((List.replicate cp.toNat zd).flatten))):=by
  intro t' ht'
  obtain ⟨hS2,hF2⟩:=h.newRow (madeCells z.cells (cp.toNat * info.size)) e t' (cp.toNat * ei.size)
  refine OpOK.mk (r:=.slice (some ⟨w.heap.size,0,none⟩) cp.toNat cp.toNat) hd ?_ hF2 hS2 fun x hx=>?_
  ·simp only [execOp,hll,hcc,Sem.run_bind,hrun,Result.andThen_ok]
   rfl
  ·obtain rfl:=ht' x hx
   have hfl:((List.replicate cp.toNat zd).flatten).length=cp.toNat * ei.size:=by rw [zby,hzl]
   refine zoc (m:=.own) (es:=ei.size) rfl (zhd w _) (by show upd _ _ _ _=_;simp [upd]) (by show upd _ _ _ _=_;simp [upd,hfl]) hfl hpos (Nat.le_refl _) ?_ (fun h=>h) fun j y hj=>?_
   ·rw [size_madeCells,h2];exact Nat.le_refl _
   ·have hjl:j < cp.toNat * ei.size:=by
     rcases Nat.lt_or_ge j (cp.toNat * ei.size) with hlt | hge
     ·exact hlt
     ·rw [List.getElem?_eq_none (by rw [hfl];exact hge)] at hj;cases hj
    rw [zge _ _ _ (by rw [hzl];exact hjl),hzl] at hj
    obtain ⟨c0,hc0,hcy⟩:=hz2 _ _ hj
    rw [h4,List.getElem?_map] at hc0
    have hm:j % ei.size < z.cells.size:=by rw [hzs];exact Nat.mod_lt _ hpos
    rw [Array.getElem?_toList,Array.getElem?_eq_getElem hm] at hc0
    simp only [Option.map_some,Option.some.injEq] at hc0
    refine ⟨z.cells[j % ei.size],?_,?_⟩
    ·simp only [madeCells,Array.getElem?_map]
     rw [h2,Array.getElem?_range,if_pos hjl]
     simp only [Option.map_some,Option.some.injEq,hzs]
     exact getElem!_pos z.cells (j % ei.size) hm
    ·subst hc0
     have hcr:RC (w.alloc (.cells (madeCells z.cells (cp.toNat * info.size)) e)) (newG G w.heap.size (some (.at (.slot d x) [])) (cp.toNat * ei.size)) (.slot d x) [j] (C.ofValue z.cells[j % ei.size]) z.cells[j % ei.size]:=zho _
     refine toD_own hcy ?_ hcr
     unfold C.ofValue at hcy ⊢
     split
     ·rfl
     ·rename_i hs
      rw [if_neg hs] at hcy
      split
      ·rfl
      ·rename_i hne
       split at hcy
       ·rename_i heq;exact absurd heq hne
       ·simp [C.toD] at hcy
 cases dst with
 | none=>exact fin 0 (fun x hx=>by cases hx)
 | some t'=>exact fin t' (fun x hx=>by cases hx;rfl)

theorem zpy (h:Sim d N G σ a.tmps w) {t':Nat} (hd:(some t').all (· < N)=true) (t:TypeId) (l c:Operand) {i ei:TI} {e:Nat} (hi:ti g.P t=some i) (he:i.elem=some e) (hei:ti g.P e=some ei) {n cp:Int}
 (hl:toInt (opnd σ.env l)=some n) (hc:toInt (opnd σ.env c)=some cp) (hz:¬ ((ei.zero.map C.ofValue).length≠ei.size∨ei.size=0)) (hb:0≤n∧cp=n∧n * (ei.bytes+1)≤maxBytes) (hk:σ.mem (d,t')=none) (htk:t'≠deepK) :
 OpOK g.P d N G w a { dst:=some t',op:=.makeSlice t l c,type:=ty,pos,after,guard } { σ with mem:=upd σ.mem (d,t') (some ((List.replicate n.toNat (ei.zero.map C.ofValue)).flatten)) } (.one (.bs (d,t') n.toNat ei.size)):=by
 obtain ⟨info,h1,h2,h2b,z,h3,h4⟩:=zmo hei
 have hzs:z.cells.size=ei.size:=by rw [h4,List.length_map,Array.length_toList] at hz;omega
 have hpos:0 < ei.size:=by omega
 obtain ⟨hn0,rfl,hbytes⟩:=hb
 have hll:=zgz hl (h.opnd l)
 have hcc:=zgz hc (h.opnd c)
 have hbound:cp * ((ei.bytes:Int)+1)≤70368744177664:=by simpa [maxBytes] using hbytes
 have hb1:(info.bytes:Int) * cp≤281474976710656:=by
  rw [h2b,Int.mul_comm]
  have h5:cp * ((ei.bytes:Int)+1)=cp * (ei.bytes:Int)+cp:=by rw [Int.mul_add,Int.mul_one]
  omega
 have hb2:cp≤9223372036854775807:=by
  have h5:cp * ((ei.bytes:Int)+1)=cp * (ei.bytes:Int)+cp:=by rw [Int.mul_add,Int.mul_one]
  have h6:0≤cp * (ei.bytes:Int):=Int.mul_nonneg hn0 (by omega)
  omega
 have hrun:=run_make (P:=g.P) w t e info z (zhp hi he) h1 h3 .i64 .i64 cp cp hn0 (Int.le_refl _) hb1 hb2
 have hsz:(madeCells z.cells (cp.toNat * info.size)).size=cp.toNat * ei.size:=by rw [size_madeCells,h2]
 have hrel:=made_rel (Q:=fun _ c v=>∀ G':Gh,∀ w':World,∀ p,RC w' G' (.cell (d,t')) p c v) (len:=cp.toNat) hzs hpos (fun j u G' w' p=>zho u)
 rw [← h2] at hrel
 obtain ⟨G1,hS1,hF1,hβ1,hcap1⟩:=h.newBox hk ⟨rfl,fun e=>htk (Prod.mk.inj e).2⟩ (madeCells z.cells (cp.toNat * info.size)) e _ hsz
 have hS2:=hS1.setMem (k:=(d,t')) (cs:=List.replicate (cp.toNat * ei.size) C.dead) (cs':=(List.replicate cp.toNat (ei.zero.map C.ofValue)).flatten) (by simp [upd]) (fun hz' h0=>hz' (by
  have h00:=congrArg List.length h0
  rw [List.length_replicate] at h00
  have h00:cp.toNat * ei.size=0:=h00
  rcases Nat.mul_eq_zero.1 h00 with h9 | h9
  ·rw [h9];rfl
  ·omega)) (fun arr e' ha=>by
  rw [hβ1,zhd] at ha
  cases ha
  have hl2:((List.replicate cp.toNat (ei.zero.map C.ofValue)).flatten).length=(madeCells z.cells (cp.toNat * info.size)).toList.length:=by
   have e1:(madeCells z.cells (cp.toNat * info.size)).toList.length=cp.toNat * ei.size:=by rw [← hsz];exact Array.length_toList
   have e2:(ei.zero.map C.ofValue).length=ei.size:=by rw [h4,List.length_map,← hzs];exact Array.length_toList
   rw [e1,zby,e2]
  rw [hl2,List.take_length,h4]
  exact ⟨hrel.1,fun j c hj=>by obtain ⟨y,hy,hr⟩:=hrel.2 j c hj;exact ⟨y,hy,hr _ _ _⟩⟩)
 rw [show upd (upd σ.mem (d,t') (some (List.replicate (cp.toNat * ei.size) C.dead))) (d,t') _=upd σ.mem (d,t') (some ((List.replicate cp.toNat (ei.zero.map C.ofValue)).flatten)) from zmm _ _ _ _] at hS2
 refine OpOK.mk (r:=.slice (some ⟨w.heap.size,0,none⟩) cp.toNat cp.toNat) hd ?_ hF1 hS2 fun x hx=>?_
 ·simp only [execOp,hll,hcc,Sem.run_bind,hrun,Result.andThen_ok]
  rfl
 ·exact ⟨by rw [hS2.live];simp [upd],hpos,_,cp.toNat,rfl,fun h=>h,fun _=>⟨by rw [hβ1],Nat.le_refl _,by rw [hcap1,hsz];exact Nat.le_refl _⟩⟩

end
end Go.Ev


namespace Go.Ev
section
variable {g:Cfg} {d N:Nat} {G:Gh} {σ:St} {w:World} {a:Act} {dst:Option Nat} {ty:TypeId} {pos:String} {after:Array Edge} {guard:Option (Nat × Bool)}

def appT (d:Nat) (tx ty:Option Nat) (o':Ow) (k:Nat) (inp:Bool):Tag→Tag
 | .at (.slot d' t) q=>if d'=d∧tx=some t then (match q with | []=>if inp then .at o' [] else .at .ret [] | j :: q'=>.at o' (j :: q'))
  else if d'=d∧ty=some t then (match q with | []=>.at .ret [] | j :: q'=>.at o' ((k+j) :: q')) else .at (.slot d' t) q
 | x=>x

theorem zoa {d:Nat} (tx ty:Option Nat) (o':Ow) (k:Nat) (inp:Bool) (hdp:o'.dep d≤d):RenOK d (appT d tx ty o' k inp) where
 dp x p:=by
  cases x with
  | cell k'=>exact Nat.le_refl _
  | ret=>exact Nat.le_refl _
  | slot d' t' =>
   simp only [appT]
   split
   ·rename_i hc
    rw [hc.1]
    cases p
    ·cases inp
     ·exact Nat.le_refl _
     ·exact hdp
    ·exact hdp
   ·split
    ·rename_i hc
     rw [hc.1]
     cases p
     ·exact Nat.le_refl _
     ·exact hdp
    ·exact Nat.le_refl _
 box _:=rfl
 foreign:=rfl
 at_ x p:=by
  cases x with
  | cell k'=>exact ⟨_,_,rfl⟩
  | ret=>exact ⟨_,_,rfl⟩
  | slot d' t' =>
   simp only [appT]
   split
   ·cases p
    ·cases inp <;> exact ⟨_,_,rfl⟩
    ·exact ⟨_,_,rfl⟩
   ·split
    ·cases p <;> exact ⟨_,_,rfl⟩
    ·exact ⟨_,_,rfl⟩
 keep x hx:=by
  cases x with
  | foreign=>rfl
  | box k=>rfl
  | «at» o p =>
   cases o with
   | cell k'=>rfl
   | ret=>rfl
   | slot d' t' =>
    simp only [appT]
    rw [if_neg (by rintro ⟨rfl,_⟩;exact hx (Nat.le_refl _)),if_neg (by rintro ⟨rfl,_⟩;exact hx (Nat.le_refl _))]

def tmpOf:Operand→Option Nat
 | .tmp t=>some t
 | _=>none

theorem Sim.sameHeap {tm:Array Value} (h:Sim d N G σ tm w) {w':World} (hh:w'.heap=w.heap) (ho:w'.os=w.os∧w'.tape=w.tape∧w'.output=w.output):Sim d N G σ tm w'∧Frm d G w G w':=by
 have hc:∀ b off,w'.cell? ⟨b,off,none⟩=w.cell? ⟨b,off,none⟩:=fun b off=>by simp [World.cell?,hh]
 have hH:∀ o p,Hands w G w' G o p o p fun _=>false:=fun o p =>
  {tag:=fun b q _ hq=>⟨hq,rfl,by rw [hh]⟩,nil:=fun _ _ h=>h,nilh:=fun b _ _=>by rw [hh],box:=fun _ _ h=>h,use:=fun _ _ _=>Nat.le_refl _,cell:=fun b off _ _ _=>hc b off,live:=fun k hk _=>⟨hk,rfl,rfl⟩ }
 refine ⟨{ sz:=h.sz,env:=fun t=>(hH _ _).ra0 (h.env t),mem:=fun k cs hk hn2=>?_,live:=h.live,dep:=h.dep,wf:=fun b t hb=>by rw [hh];exact h.wf b t hb,wfb:=h.wfb,wfc:=h.wfc,age:=h.age,fut:=fun b hb=>h.fut b (by rwa [hh] at hb),aged:=h.aged,jump:=h.jump },
  {size:=by rw [hh];exact Nat.le_refl _,kept:=⟨ho,fun a ha=>⟨by rwa [hh],by simp [World.frozen?,hh]⟩⟩,same:=fun b _ _=>⟨by rw [hh],rfl,rfl⟩,age:=fun _ _ _=>rfl,box:=fun _ _ _ h=>h,use:=fun _ _ _=>Nat.le_refl _,cell:=fun b off _ _ _ _=>hc b off,live:=fun _ h _=>⟨h,rfl,rfl⟩,back:=fun _ _ h=>.inl h,up:=fun _ h=>h }⟩
 obtain ⟨arr,e,h1,h2,h2c,h3⟩:=h.mem k cs hk hn2
 exact ⟨arr,e,by rw [hh];exact h1,h2,h2c,(hH _ _).rcs0 h3⟩

theorem zob {w':World} (hh:w'.heap=w.heap) {o:Ow} {m:Md} {p:List Nat} {x:D} {v:Value} (h:RD w G o m p x v):RD w' G o m p x v:=by
 have hH:Hand w G w' G o p o p:={ tag:=fun b q _ hq=>⟨hq,rfl,by rw [hh]⟩,nil:=fun _ _ h=>h,nilh:=fun b _ _=>by rw [hh],box:=fun _ _ h=>h,use:=fun _ _ _=>Nat.le_refl _,cell:=fun b off _ _ _=>by simp [World.cell?,hh] }
 exact hH.rd h

theorem Sim.grow {tm:Array Value} (h:Sim d N G σ tm w) {t b:Nat} {arr arr':Array Value} {e:TypeId} {u:Nat} (hdead:σ.env t=.dead) (hown:G.own b=some (.at (.slot d t) [])) (ha:w.heap[b]?=some (.cells arr e (0,0)))
 (hu:G.use b≤u) (hc:∀ off,off < G.use b→arr'[off]?=arr[off]?) :
 Sim d N { G with use:=upd G.use b u } σ tm (w.setRow b arr')∧Frm d G w { G with use:=upd G.use b u } (w.setRow b arr') ∧
  (∀ o p,(∀ q,¬ (o=.slot d t∧p ++ q=[]))→Hands w G (w.setRow b arr') { G with use:=upd G.use b u } o p o p fun _=>false):=by
 have hcell:∀ b' off,b' < w.heap.size→(∀ k,G.own b'≠some (.box k))→off < G.use b'→(w.setRow b arr').cell? ⟨b',off,none⟩=w.cell? ⟨b',off,none⟩:=by
  intro b' off _ _ hoff
  by_cases hb:b'=b
  ·subst hb
   rw [cell_setRow_same w b' off arr arr' e _ ha,hc off hoff,zjh ha]
  ·exact World.cell?_of_block (setRow_other w b b' arr' hb)
 have huse:∀ b',G.use b'≤upd G.use b u b':=by
  intro b'
  unfold upd
  split
  ·rename_i hb;rw [hb];exact hu
  ·exact Nat.le_refl _
 have hH:∀ o p,(∀ q,¬ (o=.slot d t∧p ++ q=[]))→Hands w G (w.setRow b arr') { G with use:=upd G.use b u } o p o p fun _=>false:=by
  intro o p hne
  refine { tag:=fun b' q _ hq=>?_,nil:=fun _ _ h=>h,nilh:=fun b' _ hq=>setRow_other w b b' arr' (by rintro rfl;rw [hown] at hq;cases hq),box:=fun _ _ h=>h,use:=fun b' _ _=>huse b',cell:=hcell,live:=fun k hk _=>⟨hk,rfl,rfl⟩ }
  have hb:b'≠b:=by
   rintro rfl
   rw [hown] at hq
   simp only [Option.some.injEq,Tag.at.injEq] at hq
   exact hne q ⟨hq.1.symm,hq.2.symm⟩
  exact ⟨hq,by show upd G.use b u b'=_;simp [upd,hb],setRow_other w b b' arr' hb⟩
 refine ⟨{ sz:=h.sz,env:=fun t2=>?_,mem:=fun k cs hk hn2=>?_,live:=h.live,dep:=h.dep,wf:=fun b' t' hb=>by rw [setRow_size];exact h.wf b' t' hb,wfb:=h.wfb,wfc:=h.wfc,age:=h.age,fut:=fun b hb=>h.fut b (by rwa [setRow_size] at hb),aged:=h.aged,jump:=h.jump },?_,hH⟩
 ·by_cases ht:t2=t
  ·subst ht;rw [hdead];exact trivial
  ·exact (hH _ _ (by rintro q ⟨h1,_⟩;simp only [Ow.slot.injEq,true_and] at h1;exact ht h1)).ra0 (h.env t2)
 ·obtain ⟨arr2,e2,h1,h2,h2c,h3⟩:=h.mem k cs hk hn2
  have hne:G.β k≠b:=by
   intro hb
   rw [hb,hown] at h2
   cases h2
  exact ⟨arr2,e2,by rw [setRow_other w b _ arr' hne];exact h1,h2,h2c,(hH _ _ (by rintro q ⟨h1,_⟩;cases h1)).rcs0 h3⟩
 ·refine { size:=by rw [setRow_size];exact Nat.le_refl _,kept:=znp ha,same:=fun b' _ ht=>?_,age:=fun _ _ _=>rfl,box:=fun _ _ _ h=>h,use:=fun b' _ _=>huse b',cell:=fun b off hb _=>hcell b off hb,live:=fun _ h _=>⟨h,rfl,rfl⟩,back:=fun _ _ h=>.inl h,up:=fun _ h=>h }
  have hb:b'≠b:=by rintro rfl;apply ht;rw [hown];exact Nat.le_refl d
  exact ⟨setRow_other w b b' arr' hb,rfl,by show upd G.use b u b'=_;simp [upd,hb]⟩

theorem RD_oneCell {o:Ow} {m:Md} {p:List Nat} {x:D} {v:Value} (h:RD w G o m p x v):v.oneCell'=true:=by
 cases x with
 | sc u=>rw [RD] at h;obtain ⟨rfl,hs⟩:=h;cases v <;> first | rfl | simp [scal] at hs
 | sl n cs =>
  rw [RD] at h
  rcases h with ⟨_,_,ad,cap,rfl,_⟩|⟨_,_,b,off,cap,rfl,_⟩ <;> rfl

theorem zla {o:Ow} {m:Md} {p:List Nat} {b off:Nat}:∀ {cs:List D} {i:Nat},RDs w G o m p b off i cs →
 ∃ vs:List Value,vs.length=cs.length∧(∀ j v,vs[j]?=some v→w.cell? ⟨b,off+(i+j),none⟩=some v)∧(∀ (j:Nat) x,cs[j]?=some x→∃ v,vs[j]?=some v∧RD w G o m (p ++ [i+j]) x v)
 | [],i,_=>⟨[],rfl,fun j v hv=>by simp at hv,fun j c hc=>by simp at hc⟩
 | x :: cs,i,h=>by
  rw [RDs] at h
  obtain ⟨⟨v,hv,hr⟩,hs⟩:=h
  obtain ⟨vs,h1,h2,h4⟩:=zla hs
  refine ⟨v :: vs,by simp [h1],fun j u hu=>?_,fun j c hc=>?_⟩
  ·cases j with
   | zero=>cases hu;exact hv
   | succ j=>have:=h2 j u hu;rw [show i+(j+1)=i+1+j by omega];exact this
  ·cases j with
   | zero=>cases hc;exact ⟨v,rfl,hr⟩
   | succ j =>
    obtain ⟨x',hx',hr'⟩:=h4 j c hc
    exact ⟨x',hx',by rw [show i+(j+1)=i+1+j by omega];exact hr'⟩

theorem zps {P:Program} (t ty e:TypeId) (i:TypeInfo) (ht:P.underlying t=some (.slice e)) (hi:P.info? e=some i)
 (b off sLen sCap:Nat) (cur:Array Value) (eb:TypeId) (hg:w.heap[b]?=some (.cells cur eb (0,0)))
 (ad:Addr) (m c:Nat) (news:List Value) (hl:news.length=m * i.size) (hnews:∀ j u,news[j]?=some u→w.cell? (ad.add j)=some u) (h1:∀ u∈news,u.oneCell'=true)
 (hroom:sLen+m≤sCap) (hfit:off+sLen * i.size+news.length≤cur.size) :
 (Builtin.append_ #[t,t] ty #[.slice (some ⟨b,off,none⟩) sLen sCap,.slice (some ad) m c]).run P w =
  .ok (.slice (some ⟨b,off,none⟩) (sLen+m) sCap) (w.setRow b (splice cur.toList (off+sLen * i.size) news).toArray):=by
 have hf:=run_firstCells_some (P:=P) w i.size m ad m c news hl hnews
 have hst:=run_storeCells_at P b (off+sLen * i.size) eb news 0 cur w hg (by simpa using hfit) h1
 simp only [Nat.add_zero] at hst
 simp [Builtin.append_,run_underlying ht,sizeOf,typeInfo,hi,Builtin.lenOf,hroom,hf,Addr.add_lit,hst,splice]

theorem all_isSc {cs:List D} (h:cs.all D.isSc=true) {j:Nat} {x:D} (hj:cs[j]?=some x):∃ v,x=.sc v:=by
 have:=List.all_eq_true.1 h x (List.mem_of_getElem? hj)
 cases x with
 | sc v=>exact ⟨v,rfl⟩
 | sl n cs=>simp [D.isSc] at this

theorem znc {x:Operand} {t:Nat} (h:tmpOf x=some t):x=.tmp t:=by
 cases x <;> simp [tmpOf] at h
 rw [h]

theorem zff {P:Program} (t ty e:TypeId) (i:TypeInfo) (ht:P.underlying t=some (.slice e)) (hi:P.info? e=some i) (base:Option Addr) (n cap:Nat) (hnc:n≤cap) (ay:Option Addr) (cy:Nat) :
 (Builtin.append_ #[t,t] ty #[.slice base n cap,.slice ay 0 cy]).run P w=.ok (.slice base n cap) w:=by
 cases ay <;> cases base <;> simp [Builtin.append_,run_underlying ht,sizeOf,typeInfo,hi,Builtin.lenOf,hnc,Builtin.firstCells,loadCells,loadCellsFrom,storeCells]

theorem const_empty {v:Value} {m:Md} {n:Nat} {cs:List D} (h:AV.ofValue v=.one (.l m n cs)):n=0∧cs=[]:=by
 unfold AV.ofValue at h
 split at h
 ·cases h
 ·simp only [AV.one.injEq] at h
  unfold C.ofValue at h
  split at h
  ·cases h
  ·split at h
   ·cases h;exact ⟨rfl,rfl⟩
   ·cases h

theorem zix {x:Operand} {m:Md} {n:Nat} {cs:List D} {env:Nat→AV} (h:opnd env x=.one (.l m n cs)):(∃ t,x=.tmp t)∨(n=0∧cs=[]):=by
 cases x with
 | tmp t=>exact .inl ⟨t,rfl⟩
 | const v=>exact .inr (const_empty h)
 | global v=>simp [opnd] at h
 | func k=>simp [opnd] at h

theorem RD_nil {o:Ow} {m:Md} {p:List Nat} {n:Nat} {v:Value} (h:RD w G o m p (.sl n []) v):n=0∧∃ a cap,v=.slice a 0 cap∧(m.isOwn=true→cap=0):=by
 rw [RD] at h
 rcases h with ⟨_,h0,h1⟩|⟨h1,_⟩
 ·exact ⟨h0,h1⟩
 ·exact absurd rfl h1

theorem ok_append (h:Sim d N G σ a.tmps w) {t':Nat} (hd:(some t').all (· < N)=true) (x y:Operand) (args:Array Operand) (argTypes:Array TypeId) (hargs:args.toList=[x,y]) {t:Nat} (ht0:argTypes[0]?=some t)
 (ht1:argTypes[1]?=some t) (hts:argTypes.size=2) {i ei:TI} {e:Nat} (hi:ti g.P t=some i) (he:i.elem=some e) (hei:ti g.P e=some ei) (hnd:nodup (tmpsOf [x,y])=true)
 {m my m':Md} {n ny:Nat} {cs csy:List D} (hx:opnd σ.env x=.one (.l m n cs)) (hy:opnd σ.env y=.one (.l my ny csy)) (hm:m=.own∨m=.top)
 (hb:cs.length=n * ei.size∧csy.length=ny * ei.size∧0 < ei.size∧ei.zero.length=ei.size∧(n+ny) * (ei.bytes+1)≤maxBytes) (hm':appMode m my cs csy=some m') :
 OpOK g.P d N G w a { dst:=some t',op:=.call { callee:=.builtin .append,args,argTypes },type:=ty,pos,after,guard } { σ with env:=kil (kil σ.env x) y } (.one (.l m' (n+ny) (cs ++ csy))):=by
 obtain ⟨hlx,hly,hpos,hzl,hbytes⟩:=hb
 obtain ⟨info,h1,h2,h2b,z,h3,h4⟩:=zmo hei
 have hu:=zhp hi he
 have hargs':args = #[x,y]:=by apply Array.ext';simpa using hargs
 have hat:argTypes = #[t,t]:=by
  apply Array.ext
  ·simpa using hts
  ·intro k hk _
   have hk2:k < 2:=by omega
   match k,hk2 with
   | 0,_=>have:=ht0;rw [Array.getElem?_eq_getElem hk] at this;simpa using this
   | 1,_=>have:=ht1;rw [Array.getElem?_eq_getElem hk] at this;simpa using this
 subst hargs' hat
 have hvx:RD w G (owOf d x) m [] (.sl n cs) (a.eval x):=by have:=h.opnd x;rw [hx] at this;exact this
 have hvy:RD w G (owOf d y) my [] (.sl ny csy) (a.eval y):=by have:=h.opnd y;rw [hy] at this;exact this
 have hexec:∀ (r:Value) (w':World),(Builtin.append_ #[t,t] ty #[a.eval x,a.eval y]).run g.P w=.ok r w' →
  (execOp a.eval { dst:=some t',op:=.call { callee:=.builtin .append,args:=#[x,y],argTypes:=#[t,t] },type:=ty,pos,after,guard }).run g.P w=.ok (.value r) w':=by
  intro r w' hr
  simp [execOp,resolve,invoke,builtin,hr]

 have hne:∀ tx ty',x=.tmp tx→y=.tmp ty'→tx≠ty':=by
  rintro tx ty' rfl rfl rfl
  simp [zhj,zoh,nodup] at hnd

 have ren:∀ inp,Sim d N (Ev.ren G (appT d (tmpOf x) (tmpOf y) (.slot d t') cs.length inp)) { σ with env:=upd (kil (kil σ.env x) y) t' .dead } a.tmps w:=by
  intro inp
  refine h.ren (zoa (tmpOf x) (tmpOf y) (.slot d t') cs.length inp (Nat.le_refl d)) _ _ (fun t2=>?_) (Sim.memSame _ fun k q=>rfl) ?_
  ·by_cases h1:t2=t'
   ·left;simp [upd,h1]
   ·by_cases h2:tmpOf x=some t2
    ·left
     have:=znc h2
     subst this
     cases y <;> simp [kil,upd,h1]
    ·by_cases h3:tmpOf y=some t2
     ·left
      have:=znc h3
      subst this
      simp [kil,upd,h1]
     ·right
      refine ⟨?_,fun q=>?_⟩
      ·have hx2:∀ env,kil env x t2=env t2:=by
        intro env
        cases x with
        | tmp tx=>simp only [tmpOf,Option.some.injEq] at h2;simp [kil,upd,Ne.symm h2]
        | _=>rfl
       have hy2:∀ env,kil env y t2=env t2:=by
        intro env
        cases y with
        | tmp tx=>simp only [tmpOf,Option.some.injEq] at h3;simp [kil,upd,Ne.symm h3]
        | _=>rfl
       simp only [upd,h1,if_false]
       rw [hy2,hx2]
      ·simp only [appT,true_and]
       rw [if_neg h2,if_neg h3]
  ·intro o p k q hq
   left
   cases o with
   | cell k3=>simp only [appT,Tag.at.injEq,Ow.cell.injEq] at hq;exact ⟨k3,rfl,hq.1⟩
   | ret=>simp [appT] at hq
   | slot d' t2 =>
    simp only [appT] at hq
    split at hq
    ·cases p
     ·cases inp <;> simp at hq
     ·simp at hq
    ·split at hq
     ·cases p <;> simp at hq
     ·simp at hq
 have frm:∀ inp,Frm d G w (Ev.ren G (appT d (tmpOf x) (tmpOf y) (.slot d t') cs.length inp)) w:=fun inp=>(zoa (tmpOf x) (tmpOf y) (.slot d t') cs.length inp (Nat.le_refl d)).frm G w

 have ebase:∀ inp (j:Nat) xx v,cs[j]?=some xx→RD w G (owOf d x) m.elem [j] xx v→RD w (Ev.ren G (appT d (tmpOf x) (tmpOf y) (.slot d t') cs.length inp)) (.slot d t') m'.elem [j] xx v:=by
  intro inp j xx v hj hr
  rcases zix hx with ⟨tx,rfl⟩|⟨_,h0⟩
  ·have hr':=((zoa (d:=d) (tmpOf (.tmp tx)) (tmpOf y) (.slot d t') cs.length inp (Nat.le_refl d)).hands G w (o:=.slot d tx) (o':=.slot d t') (p:=[j]) (p':=[j]) fun q=>by simp [appT,tmpOf]).toHand.rd hr
   by_cases hmm:m'=m
   ·rw [hmm];exact hr'
   ·
    have hsc:cs.all D.isSc=true:=by
     unfold appMode at hm'
     split at hm'
     ·cases hm';exact absurd rfl hmm
     ·split at hm'
      ·split at hm'
       ·rename_i hmo;cases hm';exact absurd hmo.symm hmm
       ·cases hm'
      ·split at hm'
       ·rename_i hor
        cases hm'
        rcases hor with hmt | hsc
        ·exact absurd hmt.symm hmm
        ·exact hsc
       ·cases hm'
      ·cases hm'
    obtain ⟨u,rfl⟩:=all_isSc hsc hj
    rw [RD] at hr' ⊢
    exact hr'
  ·rw [h0] at hj;simp at hj
 have eadd:∀ inp (j:Nat) xx v,csy[j]?=some xx→RD w G (owOf d y) my.elem [j] xx v→RD w (Ev.ren G (appT d (tmpOf x) (tmpOf y) (.slot d t') cs.length inp)) (.slot d t') m'.elem [cs.length+j] xx v:=by
  intro inp j xx v hj hr
  rcases zix hy with ⟨ty',rfl⟩|⟨_,h0⟩
  ·by_cases hsc:csy.all D.isSc=true
   ·obtain ⟨u,rfl⟩:=all_isSc hsc hj
    rw [RD] at hr ⊢
    exact hr
   ·have hφ:=zoa (d:=d) (tmpOf x) (tmpOf (.tmp ty')) (.slot d t') cs.length inp (Nat.le_refl d)
    unfold appMode at hm'
    rw [if_neg hsc] at hm'
    split at hm'
    ·split at hm'
     ·cases hm'
      refine (hφ.hands G w (o:=.slot d ty') (o':=.slot d t') (p:=[j]) (p':=[cs.length+j]) fun q=>?_).toHand.rd hr
      have hxt:tmpOf x≠some ty':=by
       intro hxt
       have:=znc hxt
       exact hne _ _ this rfl rfl
      simp only [appT,true_and]
      rw [if_neg hxt]
      simp [tmpOf]
     ·cases hm'
    ·split at hm'
     ·cases hm'
      exact zmb (o:=.ret) (p:=[]) rfl ((hφ.hands G w (o:=.ret) (o':=.ret) (p:=[]) (p':=[]) fun q=>rfl).toHand.rd (zmb (o':=.ret) (p':=[]) rfl hr))
     ·cases hm'
    ·cases hm'
  ·rw [h0] at hj;simp at hj
 have hm2:m'.isOwn=true:=by
  unfold appMode at hm'
  split at hm'
  ·cases hm';rcases hm with rfl | rfl <;> rfl
  ·split at hm'
   ·split at hm' <;> first | (cases hm';rfl) | cases hm'
   ·split at hm' <;> first | (cases hm';rfl) | cases hm'
   ·cases hm'
 have hmo:m.isOwn=true:=by rcases hm with rfl | rfl <;> rfl
 have hlen:(cs ++ csy).length=(n+ny) * ei.size:=by rw [List.length_append,hlx,hly,Nat.add_mul]

 have put:∀ (G2:Gh) (w2:World) (r:Value),Sim d N G2 { σ with env:=upd (kil (kil σ.env x) y) t' .dead } a.tmps w2→RD w2 G2 (.slot d t') m' [] (.sl (n+ny) (cs ++ csy)) r →
  Sim d N G2 { σ with env:=putD (kil (kil σ.env x) y) (some t') (.one (.l m' (n+ny) (cs ++ csy))) } (a.put (some t') r).tmps w2:=by
  intro G2 w2 r hS hr
  have:=hS.put (dst:=some t') hd (v:=.one (.l m' (n+ny) (cs ++ csy))) (r:=r) (fun t ht=>by cases ht;exact hr)
  simpa [putD,zmm] using this
 by_cases hny:ny=0
 ·
  subst hny
  have hcy:csy=[]:=List.eq_nil_of_length_eq_zero (by simpa using hly)
  subst hcy
  obtain ⟨_,ay,cy,hy',_⟩:=RD_nil hvy
  have hmm:m'=m:=by unfold appMode at hm';simpa using hm'.symm
  obtain ⟨ad,cap,hva,hnc⟩:∃ ad cap,a.eval x=.slice ad n cap∧n≤cap:=by
   have hv2:=hvx
   rw [RD] at hv2
   rcases hv2 with ⟨_,h0,ad,cap,hv',_⟩|⟨_,_,b,off,cap,hv',hc,_⟩
   ·exact ⟨ad,cap,by rw [hv',h0],by omega⟩
   ·exact ⟨_,cap,hv',hc⟩
  have hrun:=zff (w:=w) (P:=g.P) t ty e info hu h1 ad n cap hnc ay cy
  rw [← hva,← hy'] at hrun
  refine ⟨_,w,_,.inl (hexec _ _ hrun),frm true,put _ _ _ (ren true) ?_⟩
  rw [hmm]
  simp only [Nat.add_zero,List.append_nil]
  rcases zix hx with ⟨tx,rfl⟩|⟨h0,h00⟩
  ·refine ((zoa (d:=d) (tmpOf (.tmp tx)) (tmpOf y) (.slot d t') cs.length true (Nat.le_refl d)).hands G w (o:=.slot d tx) (o':=.slot d t') (p:=[]) (p':=[]) fun q=>?_).toHand.rd hvx
   cases q <;> simp [appT,tmpOf]
  ·subst h0 h00
   obtain ⟨_,ax,cx,hx',hc0⟩:=RD_nil hvx
   rw [RD]
   exact .inl ⟨rfl,rfl,ax,cx,hx',hc0⟩
 ·
  have hcyne:csy≠[]:=by
   rintro rfl
   rcases Nat.mul_eq_zero.1 hly.symm with hx0 | hx0 <;> omega
  have hvy2:=hvy
  rw [RD] at hvy2
  rcases hvy2 with ⟨h0,_⟩|⟨_,_,by',offy,capy,hy',hncy,hnoy,hsy⟩
  ·exact absurd h0 hcyne
  obtain ⟨news,hnl,hncell,hnrd⟩:=zla hsy
  have hnews:∀ j u,news[j]?=some u→w.cell? ((⟨by',offy,none⟩:Addr).add j)=some u:=fun j u hj=>by
   rw [Addr.add_lit];have:=hncell j u hj;rwa [Nat.zero_add] at this
  have hnl':news.length=ny * info.size:=by rw [hnl,hly,h2]
  have hone:∀ u∈news,u.oneCell'=true:=by
   intro u hu'
   obtain ⟨j,hj⟩:=List.getElem?_of_mem hu'
   have hjl:j < csy.length:=by
    rcases Nat.lt_or_ge j csy.length with hlt | hge
    ·exact hlt
    ·rw [List.getElem?_eq_none (by rw [hnl];exact hge)] at hj;cases hj
   obtain ⟨v,hv,hr⟩:=hnrd j csy[j] (List.getElem?_eq_getElem hjl)
   rw [hj] at hv
   cases hv
   exact RD_oneCell hr
  have hbd:(n+ny) * ei.bytes+(n+ny)≤70368744177664:=by
   have:=hbytes
   rw [Nat.mul_add,Nat.mul_one] at this
   exact this
  have h63:((n+ny:Nat):Int)≤9223372036854775807:=by
   have:n+ny≤70368744177664:=by omega
   omega
  have hfit:(n+ny) * info.bytes≤140737488355328:=by rw [h2b];omega

  have fresh:∀ (olds:List Value) (cap:Nat),olds.length=cs.length→n+ny≤cap→(∀ (j:Nat) xx,cs[j]?=some xx→∃ v,olds[j]?=some v∧RD w G (owOf d x) m.elem [j] xx v) →
   ∃ G2,Frm d G w G2 (w.drew.alloc (.cells (olds.toArray ++ news.toArray ++ Builtin.zeroCells z.cells (cap - (n+ny))) e)) ∧
    Sim d N G2 { σ with env:=putD (kil (kil σ.env x) y) (some t') (.one (.l m' (n+ny) (cs ++ csy))) } (a.put (some t') (.slice (some ⟨w.heap.size,0,none⟩) (n+ny) cap)).tmps
     (w.drew.alloc (.cells (olds.toArray ++ news.toArray ++ Builtin.zeroCells z.cells (cap - (n+ny))) e)):=by
   intro olds cap hol hcap hold
   obtain ⟨hS1,hF1⟩:=(ren false).sameHeap (w':=w.drew) rfl ⟨rfl,rfl,rfl⟩
   obtain ⟨hS2,hF2⟩:=hS1.newRow (olds.toArray ++ news.toArray ++ Builtin.zeroCells z.cells (cap - (n+ny))) e t' (cs ++ csy).length
   have hH:=zkg (Ev.ren G (appT d (tmpOf x) (tmpOf y) (.slot d t') cs.length false)) w.drew (.cells (olds.toArray ++ news.toArray ++ Builtin.zeroCells z.cells (cap - (n+ny))) e) (some (.at (.slot d t') [])) (cs ++ csy).length G.β G.cap G.live (fun k hk=>⟨hk,rfl,rfl⟩)
   refine ⟨_,((frm false).trans hF1).trans hF2,put _ _ _ hS2 ?_⟩
   have hzs:z.cells.size=ei.size:=by rw [← hzl,h4,Array.length_toList]
   refine zoc (es:=ei.size) hm2 (zhd w.drew _) (by show upd _ _ _ _=_;simp [upd]) (by show upd _ _ _ _=_;simp [upd]) hlen hpos hcap ?_ (fun h0=>by omega) fun j xx hj=>?_
   ·simp only [Array.size_append,List.size_toArray,size_zeroCells,hol,hlx,hnl',h2,hzs,← Nat.add_mul]
    exact Nat.mul_le_mul_right _ (by omega)
   ·have hjl:j < (cs ++ csy).length:=by
     rcases Nat.lt_or_ge j (cs ++ csy).length with hlt | hge
     ·exact hlt
     ·rw [List.getElem?_eq_none hge] at hj;cases hj
    rw [List.getElem?_append] at hj
    split at hj
    ·rename_i hjc
     obtain ⟨v,hv,hr⟩:=hold j xx hj
     refine ⟨v,?_,(hH (.slot d t') [j]).toHand.rd (zob (w:=w) (w':=w.drew) rfl (ebase false j xx v hj hr))⟩
     have hj1:j < olds.toArray.size:=by simp only [List.size_toArray,hol];exact hjc
     rw [Array.getElem?_append,if_pos (by simp only [Array.size_append,List.size_toArray] at *; omega),Array.getElem?_append,if_pos hj1]
     simpa using hv
    ·rename_i hjc
     obtain ⟨v,hv,hr⟩:=hnrd (j - cs.length) xx hj
     have hr2:=eadd false (j - cs.length) xx v hj (by simpa using hr)
     rw [show cs.length+(j - cs.length)=j by omega] at hr2
     refine ⟨v,?_,(hH (.slot d t') [j]).toHand.rd (zob (w:=w) (w':=w.drew) rfl hr2)⟩
     rw [List.length_append] at hjl
     rw [Array.getElem?_append,if_pos (by simp only [Array.size_append,List.size_toArray,hol,hnl];omega),Array.getElem?_append,if_neg (by simp only [List.size_toArray,hol];omega)]
     simp only [List.size_toArray,hol,List.getElem?_toArray]
     exact hv
  by_cases hn:n=0
  ·
   subst hn
   have hcx:cs=[]:=List.eq_nil_of_length_eq_zero (by simpa using hlx)
   subst hcx
   obtain ⟨_,ax,cx,hx',hc0⟩:=RD_nil hvx
   have hcx0:=hc0 hmo
   subst hcx0
   obtain ⟨G2,hF,hS⟩:=fresh [] (grownCap w (0+ny) 0 e) rfl (grownCap_ge _ _ _ _) (fun j xx hj=>by simp at hj)
   cases ax with
   | none =>
    have hr:=run_append_nil (P:=g.P) w t ty e info z hu h1 h3 ⟨by',offy,none⟩ ny capy news hnl' hnews (by omega) (by omega) (by simp only [Nat.zero_add] at hfit;omega)
    rw [← hx',← hy'] at hr
    refine ⟨_,_,G2,.inl (hexec _ _ hr),?_,?_⟩
    ·simpa using hF
    ·simpa using hS
   | some ad =>
    have hr:=run_append_grow (P:=g.P) w t ty e info z hu h1 h3 ad 0 0 [] (by simp) (fun j v hj=>by simp at hj) ⟨by',offy,none⟩ ny capy news hnl' hnews (by omega) h63 (growslice_fits (by omega) hfit)
    rw [← hx',← hy'] at hr
    exact ⟨_,_,G2,.inl (hexec _ _ hr),hF,hS⟩
  ·have hcxne:cs≠[]:=by
    rintro rfl
    rcases Nat.mul_eq_zero.1 hlx.symm with hx0 | hx0 <;> omega
   have hvx2:=hvx
   rw [RD] at hvx2
   rcases hvx2 with ⟨h0,_⟩|⟨_,_,bx,offx,capx,hx',hncx,hnox,hsx⟩
   ·exact absurd h0 hcxne
   obtain ⟨olds,hol,hocell,hord⟩:=zla hsx
   obtain ⟨tx,rfl⟩:∃ tx,x=.tmp tx:=by
    rcases zix hx with h | ⟨h0,_⟩
    ·exact h
    ·exact absurd h0 hn
   by_cases hroom:n+ny≤capx
   ·
    have hno2:G.own bx=some (.at (.slot d tx) [])∧offx+cs.length=G.use bx∧offx=0∧∃ arr e,w.heap[bx]?=some (.cells arr e (0,0))∧∀ sz,cs.length=n * sz→offx+capx * sz≤arr.size:=by
     rcases hm with rfl | rfl <;> exact hnox
    obtain ⟨hown,huse,hoff0,arr,eb,harr,hroom2⟩:=hno2
    have hsz:=hroom2 ei.size hlx
    have hfit2:offx+n * info.size+news.length≤arr.size:=by
     rw [hnl',h2,Nat.add_assoc,← Nat.add_mul]
     have:=Nat.mul_le_mul_right ei.size hroom
     omega
    have hr:=zps (w:=w) (P:=g.P) t ty e info hu h1 bx offx n capx arr eb harr ⟨by',offy,none⟩ ny capy news hnl' hnews hone hroom hfit2
    rw [← hx',← hy'] at hr
    have hS1:=ren true
    have hown1:(Ev.ren G (appT d (tmpOf (.tmp tx)) (tmpOf y) (.slot d t') cs.length true)).own bx=some (.at (.slot d t') []):=by
     rw [zgs,hown]
     simp [appT,tmpOf]
    have hidx:offx+n * info.size=offx+cs.length:=by rw [h2,hlx]
    have hspl:offx+n * info.size+news.length≤arr.toList.length:=by rw [Array.length_toList];exact hfit2
    have hget:=zdp arr.toList (offx+n * info.size) news hspl
    obtain ⟨hS2,hF2,hH2⟩:=hS1.grow (t:=t') (b:=bx) (arr:=arr) (arr':=(splice arr.toList (offx+n * info.size) news).toArray) (e:=eb) (u:=offx+(cs ++ csy).length) (by simp [upd]) hown1 harr
     (by show G.use bx≤_;rw [← huse,List.length_append];omega) (fun off hoff=>by
      have hoff':off < offx+cs.length:=by rw [huse];exact hoff
      rw [List.getElem?_toArray,hget off,if_neg (by omega),Array.getElem?_toList])
    refine ⟨_,_,_,.inl (hexec _ _ hr),(frm true).trans hF2,put _ _ _ hS2 ?_⟩
    have hlen2:=setRow_heap w bx arr (splice arr.toList (offx+n * info.size) news).toArray eb (0,0) harr
    have hsize2:(splice arr.toList (offx+n * info.size) news).toArray.size=arr.size:=by rw [List.size_toArray,zas _ _ _ hspl,Array.length_toList]
    rw [RD]
    right
    refine ⟨by simp [hcxne],by omega,bx,offx,capx,rfl,hroom,?_,zlb fun j xx hj=>?_⟩
    ·have hh:(Ev.ren G (appT d (tmpOf (.tmp tx)) (tmpOf y) (.slot d t') cs.length true)).own bx=some (.at (.slot d t') [])∧offx+(cs ++ csy).length=upd G.use bx (offx+(cs ++ csy).length) bx∧offx=0 ∧
      ∃ arr2 e2,(w.setRow bx (splice arr.toList (offx+n * info.size) news).toArray).heap[bx]?=some (.cells arr2 e2 (0,0))∧∀ sz,(cs ++ csy).length=(n+ny) * sz→offx+capx * sz≤arr2.size:=by
      refine ⟨hown1,by simp [upd],hoff0,_,eb,hlen2,fun sz hsz2=>?_⟩
      have:sz=ei.size:=by
       rw [hlen] at hsz2
       exact (Nat.eq_of_mul_eq_mul_left (by omega) hsz2).symm
      subst this
      rw [hsize2]
      exact hsz
     cases m' <;> first | exact hh | simp [Md.isOwn] at hm2
    ·have hjl:j < (cs ++ csy).length:=by
      rcases Nat.lt_or_ge j (cs ++ csy).length with hlt | hge
      ·exact hlt
      ·rw [List.getElem?_eq_none hge] at hj;cases hj
     rw [List.length_append] at hjl
     have hhand:=hH2 (.slot d t') [j] (by rintro q ⟨_,h0⟩;cases h0)
     rw [List.getElem?_append] at hj
     rw [cell_setRow_same w bx (offx+(0+j)) arr _ eb (0,0) harr,List.getElem?_toArray,hget]
     split at hj
     ·rename_i hjc
      obtain ⟨v,hv,hr⟩:=hord j xx hj
      refine ⟨v,?_,by simpa using hhand.toHand.rd (ebase true j xx v hj (by simpa using hr))⟩
      rw [if_neg (by omega),Array.getElem?_toList]
      have:=hocell j v hv
      rw [zjh harr] at this
      exact this
     ·rename_i hjc
      obtain ⟨v,hv,hr⟩:=hnrd (j - cs.length) xx hj
      have hr2:=eadd true (j - cs.length) xx v hj (by simpa using hr)
      rw [show cs.length+(j - cs.length)=j by omega] at hr2
      refine ⟨v,?_,by simpa using hhand.toHand.rd hr2⟩
      rw [if_pos (by rw [hnl];omega),← hv]
      congr 1
      omega
   ·have hr:=run_append_grow (P:=g.P) w t ty e info z hu h1 h3 ⟨bx,offx,none⟩ n capx olds (by rw [hol,hlx,h2]) (fun j v hj=>by rw [Addr.add_lit];have:=hocell j v hj;rwa [Nat.zero_add] at this)
     ⟨by',offy,none⟩ ny capy news hnl' hnews (by omega) h63 (growslice_fits (by omega) hfit)
    rw [← hx',← hy'] at hr
    obtain ⟨G2,hF,hS⟩:=fresh olds (grownCap w (n+ny) capx e) hol (grownCap_ge _ _ _ _) (fun j xx hj=>by obtain ⟨v,hv,hr⟩:=hord j xx hj;exact ⟨v,hv,by simpa using hr⟩)
    exact ⟨_,_,G2,.inl (hexec _ _ hr),hF,hS⟩

end
end Go.Ev


namespace Go.Ev
theorem RCs_map {w:World} {G G0:Gh} {o o':Ow} {p p':List Nat} {i i':Nat} {cs cs':List C} {vs:List Value} {F:C→Option C} (h:RCs w G o p i cs vs) (hm:cs.mapM F=some cs')
 (hF:∀ (j:Nat) c c' v,c∈cs→F c=some c'→RC w G o (p ++ [i+j]) c v→RC w G0 o' (p' ++ [i' + j]) c' v):RCs w G0 o' p' i' cs' vs:=by
 induction cs generalizing i i' cs' vs with
 | nil=>simp at hm;subst hm;exact ⟨h.1,fun j c hj=>by simp at hj⟩
 | cons c cs ih =>
  rw [List.mapM_cons] at hm
  simp only [bind,Option.bind_eq_some_iff,pure,Option.some.injEq] at hm
  obtain ⟨c',hc',cs2,hcs2,rfl⟩:=hm
  obtain ⟨hl,hr⟩:=h
  cases vs with
  | nil=>simp at hl
  | cons v vs =>
   have ih':=ih (i:=i+1) (i':=i' + 1) (vs:=vs) ⟨by simpa using hl,fun j c hj=>by
    obtain ⟨x,hx,hrc⟩:=hr (j+1) c hj
    exact ⟨x,hx,by rw [show i+1+j=i+(j+1) by omega];exact hrc⟩⟩ hcs2 (fun j c c' v hmem hf hrc=>by
     have:=hF (j+1) c c' v (List.mem_cons_of_mem _ hmem) hf (by rw [show i+(j+1)=i+1+j by omega];exact hrc)
     rwa [show i' + (j+1)=i' + 1+j by omega] at this)
   refine ⟨by simp [ih'.1],fun j c0 hj=>?_⟩
   cases j with
   | zero =>
    simp at hj
    subst hj
    obtain ⟨x,hx,hrc⟩:=hr 0 c rfl
    exact ⟨x,hx,hF 0 c c' x (List.mem_cons_self ..) hc' hrc⟩
   | succ j =>
    obtain ⟨x,hx,hrc⟩:=ih'.2 j c0 hj
    exact ⟨x,hx,by rw [show i' + (j+1)=i' + 1+j by omega];exact hrc⟩

mutual
theorem RD_share {w:World} {G G':Gh} {o o':Ow} (hu:∀ b,G.use b≤G'.use b) (h0:∀ b,G.own b=none→G'.own b=none) (h1:∀ b p,G.own b=some (.at o p)→G'.own b=none):∀ {d:D} {m:Md} {p p':List Nat} {v:Value},m≠.bor→RD w G o m p d v→RD w G' o' .shr p' d v
 | .sc x,m,p,p',v,_,hr=>by rw [RD] at hr ⊢; exact hr
 | .sl n cs,m,p,p',v,hm,hr=>by
  rw [RD] at hr ⊢
  rcases hr with ⟨h2,h3,a,cap,h4,_⟩|⟨h2,h3,b,off,cap,hv,hc,hn,hs⟩
  ·exact .inl ⟨h2,h3,a,cap,h4,fun h=>by cases h⟩
  ·refine .inr ⟨h2,h3,b,off,cap,hv,hc,⟨?_,Nat.le_trans (zgb hn) (hu b)⟩,RDs_share hu h0 h1 (by cases m <;> simp_all [Md.elem]) hs⟩
   cases m with
   | own=>exact h1 b p hn.1
   | top=>exact h1 b p hn.1
   | shr=>exact h0 b hn.1
   | bor=>exact absurd rfl hm
theorem RDs_share {w:World} {G G':Gh} {o o':Ow} (hu:∀ b,G.use b≤G'.use b) (h0:∀ b,G.own b=none→G'.own b=none) (h1:∀ b p,G.own b=some (.at o p)→G'.own b=none):∀ {cs:List D} {m:Md} {p p':List Nat} {b off i:Nat},m≠.bor→RDs w G o m p b off i cs→RDs w G' o' .shr p' b off i cs
 | [],m,p,p',b,off,i,_,_=>by rw [RDs];trivial
 | d :: ds,m,p,p',b,off,i,hm,hr=>by
  rw [RDs] at hr ⊢
  obtain ⟨⟨v,hv,hd⟩,hr⟩:=hr
  exact ⟨⟨v,hv,RD_share hu h0 h1 hm hd⟩,RDs_share hu h0 h1 hm hr⟩
end
theorem zqy {w:World} {G G':Gh} {o o':Ow} (hu:∀ b,G.use b≤G'.use b) (h0:∀ b,G.own b=none→G'.own b=none) (h1:∀ b p,G.own b=some (.at o p)→G'.own b=none) {p p':List Nat} {c c':C} {v:Value} (hd:c.data?=true) (hl:c.lend=some c') (hr:RC w G o p c v):RC w G' o' p' c' v:=by
 cases c with
 | s u=>simp only [C.lend,Option.some.injEq] at hl;subst hl;exact hr
 | l m n cs =>
  simp only [C.lend,Option.some.injEq] at hl
  subst hl
  exact RD_share hu h0 h1 (by rintro rfl;simp [C.data?] at hd) hr
 | _=>simp [C.lend] at hl
def shT (o:Ow):Tag→Option Tag
 | .at o' p=>if o'=o then none else some (.at o' p)
 | t=>some t
theorem shT_eq {o:Ow} {t t':Tag} (h:shT o t=some t'):t=t':=by
 cases t with
 | foreign=>exact Option.some.inj h
 | box k=>exact Option.some.inj h
 | «at» o' p =>
  simp only [shT] at h
  split at h
  ·cases h
  ·exact Option.some.inj h
theorem zfx {o:Ow} {x:Option Tag} {t:Tag} (h:x.bind (shT o)=some t):x=some t:=by
 rw [Option.bind_eq_some_iff] at h
 obtain ⟨t0,rfl,h2⟩:=h
 rw [shT_eq h2]
def Gh.share (G:Gh) (o:Ow):Gh:={ G with own:=fun x=>(G.own x).bind (shT o) }
theorem zhw {w:World} (G:Gh) {o o':Ow} (p:List Nat) (hne:o'≠o):Hands w G w (G.share o) o' p o' p (fun _=>false) where
 tag b q _ hb:=⟨by show (G.own b).bind _=_;rw [hb];simp [shT,hne],rfl,rfl⟩
 nil b _ hb:=by show (G.own b).bind _=_;rw [hb];rfl
 nilh _ _ _:=rfl
 box b _ hb k hk:=hb k (zfx hk)
 use _ _ _:=Nat.le_refl _
 cell _ _ _ _ _:=rfl
 live _ hk _:=⟨hk,rfl,rfl⟩
theorem Sim.share {d N:Nat} {G:Gh} {σ:St} {tm:Array Value} {w:World} (h:Sim d N G σ tm w) {t:Nat} {v:AV} (hd:(σ.env t).data?=true) (hl:(σ.env t).lend=some v):∃ G',Sim d N G' { σ with env:=upd σ.env t v } tm w∧Frm d G w G' w:=by
 have hu:∀ b,G.use b≤(G.share (.slot d t)).use b:=fun b=>Nat.le_refl _
 have h0:∀ b,G.own b=none→(G.share (.slot d t)).own b=none:=fun b hb=>by show (G.own b).bind _=_;rw [hb];rfl
 have h1:∀ b p,G.own b=some (.at (.slot d t) p)→(G.share (.slot d t)).own b=none:=fun b p hb=>by show (G.own b).bind _=_;rw [hb];simp [shT]
 refine ⟨G.share (.slot d t),{ sz:=h.sz,env:=fun t2=>?_,mem:=fun k cs hk hne=>?_,live:=h.live,dep:=h.dep,wf:=fun b tg hb=>h.wf b tg (zfx hb),wfb:=fun b k hb=>h.wfb b k (zfx hb),wfc:=fun b k p hb=>h.wfc b k p (zfx hb),age:=h.age,fut:=h.fut,aged:=fun b tg hb=>h.aged b tg (zfx hb),jump:=h.jump },
  {size:=Nat.le_refl _,kept:=Kept.refl w,same:=fun b hb ht=>⟨rfl,?_,rfl⟩,age:=fun _ _ _=>rfl,box:=fun b hb ha hk k hk2=>hk k (zfx hk2),use:=fun _ _ _=>Nat.le_refl _,cell:=fun _ _ _ _ _ _=>rfl,live:=fun k hk _=>⟨hk,rfl,rfl⟩,back:=fun _ _ h=>.inl h,up:=fun _ h=>h }⟩
 ·show RA w _ _ (upd σ.env t v t2) _
  by_cases ht:t2=t
  ·subst ht
   simp only [upd,if_true]
   have hr:=h.env t2
   cases he:σ.env t2 with
   | one c =>
    rw [he] at hr hd hl
    simp only [AV.lend,Option.map_eq_some_iff] at hl
    obtain ⟨c',hc,rfl⟩:=hl
    exact zqy hu h0 h1 hd hc hr
   | ag cs =>
    rw [he] at hr hd hl
    simp only [AV.lend,Option.map_eq_some_iff] at hl
    obtain ⟨cs',hc,rfl⟩:=hl
    obtain ⟨vs,hv,hs⟩:=hr
    have hd':∀ c∈cs,c.data?=true:=by simpa [AV.data?] using hd
    exact ⟨vs,hv,RCs_map hs hc fun j c c' v hmem hf hrc=>zqy hu h0 h1 (hd' c hmem) hf hrc⟩
   | tu vs=>rw [he] at hl;cases hl
  ·simp only [upd,ht,if_false]
   have:=(zhw (w:=w) G (o:=.slot d t) (o':=.slot d t2) [] (by simpa using ht)).ra (h.env t2)
   rwa [AV.kill_none] at this
 ·obtain ⟨arr,e,a1,a2,a3,a4⟩:=h.mem k cs hk hne
  refine ⟨arr,e,a1,?_,a3,?_⟩
  ·show (G.own (G.β k)).bind _=_
   rw [a2];rfl
  ·have:=(zhw (w:=w) G (o:=.slot d t) (o':=.cell k) [] (by simp)).rcs a4
   rwa [zcf] at this
 ·show (G.own b).bind _=_
  cases hx:G.own b with
  | none=>rfl
  | some tg =>
   cases tg with
   | foreign=>rfl
   | box k=>rfl
   | «at» o q =>
    rw [hx] at ht
    have:o≠.slot d t:=by rintro rfl;exact ht (Nat.le_refl d)
    simp [shT,this]

theorem Sim.shareM {d N:Nat} {G:Gh} {σ:St} {tm:Array Value} {w:World} (h:Sim d N G σ tm w) {k:Key} {cs0 cs1:List C} (hk0:k.1=d) (hm:σ.mem k=some cs0) (hd:cs0.all C.data?=true) (hl:cs0.mapM C.lend=some cs1):∃ G',Sim d N G' { σ with mem:=upd σ.mem k (some cs1) } tm w∧Frm d G w G' w:=by
 have hu:∀ b,G.use b≤(G.share (.cell k)).use b:=fun b=>Nat.le_refl _
 have h0:∀ b,G.own b=none→(G.share (.cell k)).own b=none:=fun b hb=>by show (G.own b).bind _=_;rw [hb];rfl
 have h1:∀ b p,G.own b=some (.at (.cell k) p)→(G.share (.cell k)).own b=none:=fun b p hb=>by show (G.own b).bind _=_;rw [hb];simp [shT]
 have hlen:∀ (F:C→Option C) (l l':List C),l.mapM F=some l'→l'.length=l.length:=by
  intro F l
  induction l with
  | nil=>intro l' h;simp at h;subst h;rfl
  | cons c l ih =>
   intro l' h
   rw [List.mapM_cons] at h
   simp only [bind,Option.bind_eq_some_iff,pure,Option.some.injEq] at h
   obtain ⟨c',_,l2,h2,rfl⟩:=h
   simp [ih l2 h2]
 have hl2:=hlen _ _ _ hl
 refine ⟨G.share (.cell k),{ sz:=h.sz,env:=fun t2=>?_,mem:=fun k2 cs hk hne=>?_,live:=fun k2=>?_,dep:=h.dep,wf:=fun b tg hb=>h.wf b tg (zfx hb),wfb:=fun b k hb=>h.wfb b k (zfx hb),wfc:=fun b k p hb=>h.wfc b k p (zfx hb),age:=h.age,fut:=h.fut,aged:=fun b tg hb=>h.aged b tg (zfx hb),jump:=h.jump },
  {size:=Nat.le_refl _,kept:=Kept.refl w,same:=fun b hb ht=>⟨rfl,?_,rfl⟩,age:=fun _ _ _=>rfl,box:=fun b hb ha hk k hk2=>hk k (zfx hk2),use:=fun _ _ _=>Nat.le_refl _,cell:=fun _ _ _ _ _ _=>rfl,live:=fun k hk _=>⟨hk,rfl,rfl⟩,back:=fun _ _ h=>.inl h,up:=fun _ h=>h }⟩
 ·have:=(zhw (w:=w) G (o:=.cell k) (o':=.slot d t2) [] (by simp)).ra (h.env t2)
  rwa [AV.kill_none] at this
 ·have hk:upd σ.mem k (some cs1) k2=some cs:=hk
  by_cases hkk:k2=k
  ·subst hkk
   simp only [upd,if_true,Option.some.injEq] at hk
   subst hk
   obtain ⟨arr,e,a1,a2,a3,a4⟩:=h.mem k2 cs0 hm (by rintro rfl;exact hne (List.length_eq_zero_iff.1 (by simpa using hl2)))
   refine ⟨arr,e,a1,?_,a3,?_⟩
   ·show (G.own (G.β k2)).bind _=_
    rw [a2];rfl
   ·rw [hl2]
    rw [List.all_eq_true] at hd
    exact RCs_map a4 hl fun j c c' v hmem hf hrc=>zqy hu h0 h1 (hd c hmem) hf hrc
  ·simp only [upd,hkk,if_false] at hk
   obtain ⟨arr,e,a1,a2,a3,a4⟩:=h.mem k2 cs hk hne
   refine ⟨arr,e,a1,?_,a3,?_⟩
   ·show (G.own (G.β k2)).bind _=_
    rw [a2];rfl
   ·have:=(zhw (w:=w) G (o:=.cell k) (o':=.cell k2) [] (by simpa using hkk)).rcs a4
    rwa [zcf] at this
 ·show G.live k2 ↔ _
  rw [h.live k2]
  by_cases hkk:k2=k
  ·subst hkk;simp [upd,hm]
  ·simp [upd,hkk]
 ·show (G.own b).bind _=_
  cases hx:G.own b with
  | none=>rfl
  | some tg =>
   cases tg with
   | foreign=>rfl
   | box k=>rfl
   | «at» o q =>
    rw [hx] at ht
    have:o≠.cell k:=by rintro rfl;exact ht trivial
    simp [shT,this]
theorem OpOK.share {P:Program} {d N:Nat} {G:Gh} {w:World} {a:Act} {o:Oper} {σ:St} {v v':AV} (h:OpOK P d N G w a o σ v) (hd:v.data?=true) (hl:v.lend=some v'):OpOK P d N G w a o σ v':=by
 obtain ⟨r,w1,G1,h1,hF,hS⟩:=h
 cases ht:o.dst with
 | none =>
  rw [ht] at hS
  exact ⟨r,w1,G1,h1,hF,by rw [ht];exact hS⟩
 | some t =>
  rw [ht] at hS
  obtain ⟨G2,hS2,hF2⟩:=Sim.share hS (t:=t) (v:=v') (by show (upd σ.env t v t).data?=true;simp only [upd,if_true];exact hd) (by show (upd σ.env t v t).lend=_;simp only [upd,if_true];exact hl)
  refine ⟨r,w1,G2,h1,hF.trans hF2,?_⟩
  rw [ht]
  have e:upd (upd σ.env t v) t v'=upd σ.env t v':=by funext x;unfold upd;split <;> rfl
  have hS3:Sim d N G2 { σ with env:=upd (upd σ.env t v) t v' } (a.put (some t) r).tmps w1:=hS2
  rw [e] at hS3
  exact hS3
end Go.Ev


namespace Go.Ev
section
variable {g:Cfg} {d N:Nat} {G:Gh} {σ σ':St} {w:World} {a:Act}

theorem ok_field {dst:Option Nat} {ty:TypeId} {pos:String} {after:Array Edge} {guard:Option (Nat × Bool)} (h:Sim d N G σ a.tmps w) (hd:dst.all (· < N)=true) (s:TypeId) (x:Operand) (k:Nat) {i fi:TI} {fd:Nat × Nat} (hi:ti g.P s=some i) (hf:i.flds[k]?=some fd)
 (hfi:ti g.P fd.2=some fi) {cs sg:List C} (hx:opnd σ.env x=.ag cs) (hs:seg cs fd.1 fi.size=some sg) {v:AV} (hv:mkAV fi.agg (sg.map C.copy)=some v) :
 OpOK g.P d N G w a { dst,op:=.field s x k,type:=ty,pos,after,guard } σ v:=by
 have hxv:=h.opnd x
 rw [hx] at hxv
 obtain ⟨vs,hva,hr⟩:=hxv
 obtain ⟨fs,fl,hu,hfs,h1,h2⟩:=ti_fld hi hf
 have hseg:=RCs_seg hr hs
 obtain ⟨hle,hsl,_⟩:=zhx hs
 have hlen:((vs.toList.drop fd.1).take fi.size).length=fi.size:=by rw [hseg.1,hsl]
 have hsz:vs.size=cs.length:=by rw [← Array.length_toList];exact hr.1
 have hrun:(execOp a.eval { dst,op:=.field s x k,type:=ty,pos,after,guard }).run g.P w=.ok (.value (if fi.agg then .agg ((vs.toList.drop fd.1).take fi.size).toArray else ((vs.toList.drop fd.1).take fi.size)[0]?.getD undef)) w:=by
  have hp:(part fl.type vs fl.offset).run g.P w=.ok (if fi.agg then .agg ((vs.toList.drop fd.1).take fi.size).toArray else ((vs.toList.drop fd.1).take fi.size)[0]?.getD undef) w:=by
   rw [← h2] at hfi
   simp only [part,Sem.run_bind,run_isAgg hfi,Result.andThen_ok,Sem.run_ite]
   cases hag:fi.agg with
   | true =>
    simp only [if_true,zih hfi,Result.andThen_ok,Sem.run_pure,h1]
    congr 2
    apply Array.ext'
    simp [Nat.add_sub_cancel_left]
   | false =>
    have hs1:fi.size=1:=by rw [← hsl];have:=zki hv hag;rwa [List.length_map] at this
    have hlt:fd.1 < vs.size:=by omega
    have e1:((vs.toList.drop fd.1).take fi.size)[0]?=some vs[fd.1]:=by
     rw [hs1,List.getElem?_take,if_pos (by omega),List.getElem?_drop,Array.getElem?_toList]
     simp [hlt]
    simp [h1,e1,hlt]
  simp only [execOp,hva,Instr.field,Sem.run_bind,run_underlying hu,Result.andThen_ok,hfs,asAgg,Sem.run_pure,hp]
 refine OpOK.mk hd hrun (Frm.refl _ _ _) h fun t' _=>?_
 refine (znj hv (vs:=(vs.toList.drop fd.1).take fi.size) (fun _=>zji hseg) (fun _ c hcs=>?_)).1
 have:=zji (o':=.slot d t') (p':=[]) (i':=0) hseg
 rw [hcs] at this
 obtain ⟨y,hy,hr⟩:=zid this
 refine ⟨y,hy,?_⟩
 obtain ⟨c0,hc0⟩:∃ c0,sg=[c0]:=by
  have hl1:sg.length=1:=by have:=congrArg List.length hcs;simpa using this
  exact List.length_eq_one_iff.1 hl1
 subst hc0
 simp only [List.map_cons,List.map_nil,List.cons.injEq,and_true] at hcs
 subst hcs
 obtain ⟨y',hy',hr'⟩:=zid hseg
 rw [hy] at hy'
 cases hy'
 exact zit hr'

theorem ok_lookup {dst:Option Nat} {ty:TypeId} {pos:String} {after:Array Edge} {guard:Option (Nat × Bool)} (h:Sim d N G σ a.tmps w) (hd:dst.all (· < N)=true) (t:TypeId) (x k:Operand) {kt e:TypeId} {es:List (ByteArray × Nat × List D)} {s:ByteArray} {n:Nat} {cs:List D}
 (hu:g.P.underlying t=some (.map kt e)) (hk:g.P.underlying kt=some .string) (hx:opnd σ.env x=.one (.mp es)) (hs:opnd σ.env k=.one (.s (.string s))) (hl:lookM s es=some (n,cs)) :
 OpOK g.P d N G w a { dst,op:=.lookup t x k false,type:=ty,pos,after,guard } σ (.one (.l .shr n cs)):=by
 have hX:=h.opnd x
 rw [hx] at hX
 obtain ⟨b,arr,clock,hv,hn,hh,hm⟩:=hX
 have hK:=h.opnd k
 rw [hs] at hK
 obtain ⟨hK,_⟩:=hK
 obtain ⟨i,y,hf,hr⟩:=hm s n cs hl
 refine OpOK.mk (r:=y) hd ?_ (Frm.refl _ _ _) h fun t' _=>zmb rfl hr
 have hc:∀ em,(Instr.checkKey em 10000 kt (.string s)).run g.P w=.ok () w:=fun em=>by
  show (Instr.checkKey em (9999+1) kt (.string s)).run g.P w=.ok () w
  rw [Instr.checkKey]
  simp [run_underlying hk,Result.andThen]
 have hg:(getObj b).run g.P w=.ok (.map arr clock) w:=by simp [getObj,Sem.run,hh]
 simp only [execOp,hv,hK]
 simp [Instr.lookup,run_underlying hu,hg,hc,Instr.findKey,run_underlying hk,hf,Result.andThen]

theorem opE_ok (h:Sim d N G σ a.tmps w) {f:Nat} {o:Oper} (hd:o.dst.all (· < N)=true) {v:AV} (ho:opE g d f o σ=some (v,σ')):OpOK g.P d N G w a o σ' v:=by
 obtain ⟨dst,op,ty,pos,after,guard⟩:=o
 simp only at hd
 have scal:∀ {u:Value},(∀ cs b,op≠.select cs b)→(scalarOp g.P σ.env { dst,op,type:=ty,pos,after,guard } >>= fun v=>some (AV.one (.s v),σ))=some (v,σ') →
  OpOK g.P d N G w a { dst,op,type:=ty,pos,after,guard } σ' v:=by
  intro _ hs hq
  simp only [bind,Option.bind_eq_some_iff,Option.some.injEq,Prod.mk.injEq] at hq
  obtain ⟨u,hu,rfl,rfl⟩:=hq
  exact ok_scalar h hd hs hu
 cases op with
 | move x =>
  simp only [opE,Option.some.injEq] at ho
  split at ho
  ·cases ho;exact ok_take h hd x _ (.inl rfl)
  ·cases ho;exact ok_move h hd x
 | assign x =>
  simp only [opE,Option.some.injEq,Prod.mk.injEq] at ho
  obtain ⟨rfl,rfl⟩:=ho
  exact ok_take h hd x _ (.inr rfl)
 | pick c x y =>
  simp only [opE,bind,Option.bind_eq_some_iff,Option.some.injEq,Prod.mk.injEq] at ho
  obtain ⟨b,hb,rfl,rfl⟩:=ho
  exact ok_pick h hd c x y hb
 | extract x i =>
  simp only [opE] at ho
  cases x with
  | tmp t =>
   simp only at ho
   split at ho
   ·rename_i l hl
    simp only [bind,Option.bind_eq_some_iff,Option.some.injEq,Prod.mk.injEq] at ho
    obtain ⟨⟨ag,cs⟩,h1,v',h2,rfl,rfl⟩:=ho
    exact ok_extract h hd t i hl h1 h2
   ·cases ho
  | _=>cases ho
 | alloc e =>
  simp only [opE,bind,Option.bind_eq_some_iff] at ho
  obtain ⟨i,hi,t,ht,ho⟩:=ho
  split at ho
  ·cases ho
  ·rename_i hm
   simp only [Option.some.injEq,Prod.mk.injEq] at ho
   obtain ⟨rfl,rfl⟩:=ho
   subst ht
   rw [Bool.or_eq_true,not_or] at hm
   exact ok_alloc h hd e hi (by simpa using hm.1) (by simpa using hm.2)
 | box e x =>
  simp only [opE,bind,Option.bind_eq_some_iff] at ho
  obtain ⟨i,hi,t,ht,cs,hcs,ho⟩:=ho
  split at ho
  ·cases ho
  ·rename_i hm
   simp only [Option.some.injEq,Prod.mk.injEq] at ho
   obtain ⟨rfl,rfl⟩:=ho
   subst ht
   rw [Bool.or_eq_true,not_or] at hm
   exact ok_box h hd e x hcs (by simpa using hm.1) (by simpa using hm.2)
 | load t x =>
  simp only [opE,bind,Option.bind_eq_some_iff] at ho
  obtain ⟨i,hi,ho⟩:=ho
  split at ho
  ·rename_i k off hx
   simp only [Option.bind_eq_some_iff] at ho
   obtain ⟨cs,hcs,sg,hsg,ho⟩:=ho
   split at ho
   ·split at ho
    ·cases ho
    ·rename_i hkd
     simp only [Option.bind_eq_some_iff,Option.some.injEq,Prod.mk.injEq] at ho
     obtain ⟨v',hv,rfl,rfl⟩:=ho
     have hK:k.1=d∨k.1+1=d∧(σ.mem (d,deepK)).isSome=true:=by
      rcases Decidable.em (k.1=d) with e | e
      ·exact .inl e
      ·rcases Decidable.em (k.1+1=d∧(σ.mem (d,deepK)).isSome=true) with e2 | e2
       ·exact .inr e2
       ·exact absurd (.inl ⟨e,e2⟩) hkd
     cases hlv:g.leaves f dst with
     | true=>simp only [if_true];exact ok_loadLeave h hd t x hi hx hcs hK hsg hv
     | false=>simp only [Bool.false_eq_true,if_false];exact ok_loadTake h hd t x hi hx hcs hK hsg hv
   ·split at ho
    ·rename_i hal
     simp only [Option.bind_eq_some_iff,Option.some.injEq,Prod.mk.injEq] at ho
     obtain ⟨v',hv,rfl,rfl⟩:=ho
     exact ok_load h hd t x hi hx hcs hsg hv
    ·cases ho
  ·rename_i m cs ps hx
   simp only [Option.bind_eq_some_iff,Option.some.injEq,Prod.mk.injEq] at ho
   obtain ⟨sg,hsg,v',hv,rfl,rfl⟩:=ho
   exact ok_loadEp h hd t x hi hx hsg hv
  ·cases ho
 | store t x y =>
  simp only [opE,bind,Option.bind_eq_some_iff] at ho
  obtain ⟨i,hi,ho⟩:=ho
  split at ho
  ·rename_i k off hx
   simp only [Option.bind_eq_some_iff] at ho
   obtain ⟨cs,hcs,new,hnew,ho⟩:=ho
   split at ho
   ·rename_i hc
    simp only [Option.some.injEq,Prod.mk.injEq] at ho
    obtain ⟨rfl,rfl⟩:=ho
    exact ok_store h hd t x y hi hx hcs hnew ⟨hc.1,hc.2.1,hc.2.2.1,hc.2.2.2.1⟩
   ·cases ho
  ·cases ho
 | nilCheck x =>
  simp only [opE] at ho
  split at ho
  ·rename_i k off hx
   simp only [Option.some.injEq,Prod.mk.injEq] at ho
   obtain ⟨rfl,rfl⟩:=ho
   exact zne h hd x hx (.inl ⟨_,_,rfl⟩)
  ·rename_i m cs ps hx
   simp only [Option.some.injEq,Prod.mk.injEq] at ho
   obtain ⟨rfl,rfl⟩:=ho
   exact zne h hd x hx (.inr ⟨_,_,_,rfl⟩)
  ·cases ho
 | fieldAddr s x k =>
  simp only [opE,bind,Option.bind_eq_some_iff] at ho
  obtain ⟨i,hi,fd,hfd,fi,hfi,ho⟩:=ho
  split at ho
  ·cases ho
  ·rename_i hz
   obtain ⟨h1,h2⟩:=ok_fieldAddr (g:=g) (ty:=ty) (pos:=pos) (after:=after) (guard:=guard) h hd s x k hi hfd hfi hz
   split at ho
   ·rename_i key off hx
    simp only [Option.some.injEq,Prod.mk.injEq] at ho
    obtain ⟨rfl,rfl⟩:=ho
    exact h1 _ _ hx
   ·rename_i m cs ps hx
    simp only [Option.some.injEq,Prod.mk.injEq] at ho
    obtain ⟨rfl,rfl⟩:=ho
    exact h2 _ _ _ hx
   ·cases ho
 | field s x k =>
  simp only [opE,bind,Option.bind_eq_some_iff] at ho
  obtain ⟨i,hi,fd,hfd,fi,hfi,ho⟩:=ho
  split at ho
  ·rename_i cs hx
   simp only [Option.bind_eq_some_iff,Option.some.injEq,Prod.mk.injEq] at ho
   obtain ⟨sg,hsg,v',hv,rfl,rfl⟩:=ho
   exact ok_field h hd s x k hi hfd hfi hx hsg hv
  ·cases ho
 | indexAddr t x ix =>
  simp only [opE,bind,Option.bind_eq_some_iff] at ho
  obtain ⟨i,hi,e,he,ei,hei,n,hn,ho⟩:=ho
  split at ho
  ·rename_i m len cs hx
   split at ho
   ·rename_i hb
    simp only [Option.some.injEq,Prod.mk.injEq] at ho
    obtain ⟨rfl,rfl⟩:=ho
    exact ok_indexAddr h hd t x ix hi he hei hn hx hb
   ·cases ho
  ·rename_i k len sz hx
   split at ho
   ·rename_i hb
    simp only [Option.some.injEq,Prod.mk.injEq] at ho
    obtain ⟨rfl,rfl⟩:=ho
    exact zpz h hd t x ix hi he hei hn hx hb
   ·cases ho
  ·cases ho
 | build t parts =>
  simp only [opE,bind,Option.bind_eq_some_iff] at ho
  obtain ⟨i,hi,ho⟩:=ho
  split at ho
  ·cases ho
  ·rename_i hn
   obtain ⟨ps,hps,ho⟩:=Option.bind_eq_some_iff.1 ho
   split at ho
   ·cases ho
   ·rename_i hfl
    simp only [Option.bind_eq_some_iff,Option.some.injEq,Prod.mk.injEq] at ho
    obtain ⟨pl,hpl,cs,hcs,rfl,rfl⟩:=ho
    exact ok_build h hd t parts hi (by simpa using hn) hps (by simpa using hfl) hpl hcs
 | buildSlice t len parts =>
  simp only [opE,bind,Option.bind_eq_some_iff] at ho
  obtain ⟨i,hi,e,he,ei,hei,ho⟩:=ho
  split at ho
  ·cases ho
  ·rename_i hlen
   split at ho
   ·cases ho
   ·rename_i hzl
    split at ho
    ·cases ho
    ·rename_i hn
     simp only [Option.bind_eq_some_iff,Option.some.injEq,Prod.mk.injEq] at ho
     obtain ⟨ps,hps,cs,hcs,m,hm,ds,hds,rfl,rfl⟩:=ho
     have hb:=zqa (after:=after) (pos:=pos) (ty:=ty) (guard:=guard) h hd t len parts hi he hei hlen hzl (by simpa using hn) hps hcs hm hds
     split
     ·refine hb.share ?_ rfl
      unfold modeOf at hm
      split at hm
      ·cases hm;rfl
      ·split at hm <;> cases hm;rfl
     ·exact hb
 | slice t x lo hi' mx =>
  cases mx with
  | some _=>simp [opE] at ho
  | none =>
   simp only [opE,bind] at ho
   split at ho
   ·rename_i m n cs hx
    simp only [Option.bind_eq_some_iff] at ho
    obtain ⟨i,hi,e,he,ei,hei,l,hl,hh,hhh,ho⟩:=ho
    split at ho
    ·rename_i hb
     simp only [Option.some.injEq,Prod.mk.injEq] at ho
     obtain ⟨rfl,rfl⟩:=ho
     exact ok_slice h hd t x lo hi' hi he hei hx hl hhh hb
    ·cases ho
   ·exact scal (u:=undef) (by simp) ho
 | lookup t x k ok =>
  cases ok with
  | true=>simp [opE] at ho
  | false =>
   simp only [opE] at ho
   split at ho
   ·rename_i kt e hu
    split at ho
    ·rename_i hk
     rw [Option.map_eq_some_iff] at ho
     obtain ⟨⟨n,cs⟩,hl,he⟩:=ho
     simp only [Prod.mk.injEq] at he
     obtain ⟨rfl,rfl⟩:=he
     unfold lookAV at hl
     split at hl
     ·rename_i es s hx hs
      exact ok_lookup h hd t x k hu hk hx hs hl
     ·cases hl
    ·cases ho
   ·cases ho
 | makeFunc fn first caps =>
  cases fn with
  | func k =>
   simp only [opE] at ho
   split at ho
   ·rename_i hf
    simp only [bind,Option.bind_eq_some_iff,Option.some.injEq,Prod.mk.injEq] at ho
    obtain ⟨cs,hcs,rfl,rfl⟩:=ho
    exact ok_makeFunc h hd k first caps hf hcs
   ·cases ho
  | _=>simp [opE] at ho
 | makeSlice t l c =>
  simp only [opE,bind,Option.bind_eq_some_iff] at ho
  obtain ⟨i,hi,e,he,ei,hei,n,hn,cp,hcp,ho⟩:=ho
  split at ho
  ·cases ho
  ·rename_i hz
   split at ho
   ·rename_i hb
    split at ho
    ·simp only [Option.bind_eq_some_iff] at ho
     obtain ⟨t',rfl,ho⟩:=ho
     split at ho
     ·cases ho
     ·rename_i hk
      simp only [Option.some.injEq,Prod.mk.injEq] at ho
      obtain ⟨rfl,rfl⟩:=ho
      rw [Bool.or_eq_true,not_or] at hk
      exact zpy h hd t l c hi he hei hn hcp hz hb (by simpa using hk.1) (by simpa using hk.2)
    ·simp only [Option.bind_eq_some_iff,Option.some.injEq,Prod.mk.injEq] at ho
     obtain ⟨zd,hzd,rfl,rfl⟩:=ho
     exact ok_makeSlice h hd t l c hi he hei hn hcp hz hb hzd
   ·cases ho
 | binOp _ _ _ _ _=>exact scal (u:=undef) (by simp) ho
 | unOp _ _ _=>exact scal (u:=undef) (by simp) ho
 | convert _ _ _=>exact scal (u:=undef) (by simp) ho
 | index _ _ _=>exact scal (u:=undef) (by simp) ho
 | call c =>
  obtain ⟨callee,args,argTypes⟩:=c
  cases callee with
  | value x=>simp [opE] at ho
  | invoke _ _=>simp [opE] at ho
  | builtin b =>
   by_cases hl:b=.len
   ·subst hl
    simp only [opE] at ho
    split at ho
    ·rename_i m n cs hx
     simp only [bind,Option.bind_eq_some_iff,Option.some.injEq,Prod.mk.injEq] at ho
     obtain ⟨t,ht,i,hi,e,he,rfl,rfl⟩:=ho
     have hx':∃ x,args.toList=[x]∧opnd σ.env x=.one (.l m n cs):=by
      cases hal:args.toList with
      | nil=>rw [hal] at hx;simp at hx
      | cons x r =>
       rw [hal] at hx
       cases r with
       | nil=>simp at hx;exact ⟨x,rfl,hx⟩
       | cons _ _=>simp at hx
     obtain ⟨x,hxl,hxo⟩:=hx'
     exact ok_len h hd x args argTypes hxl ht hi he hxo
    ·rename_i k n sz hx
     simp only [bind,Option.bind_eq_some_iff,Option.some.injEq,Prod.mk.injEq] at ho
     obtain ⟨t,ht,i,hi,e,he,rfl,rfl⟩:=ho
     have hx':∃ x,args.toList=[x]∧opnd σ.env x=.one (.bs k n sz):=by
      cases hal:args.toList with
      | nil=>rw [hal] at hx;simp at hx
      | cons x r =>
       rw [hal] at hx
       cases r with
       | nil=>simp at hx;exact ⟨x,rfl,hx⟩
       | cons _ _=>simp at hx
     obtain ⟨x,hxl,hxo⟩:=hx'
     exact ok_lenB h hd x args argTypes hxl ht hi he hxo
    ·exact scal (u:=undef) (by simp) ho
   ·by_cases ha:b=.append
    ·subst ha
     simp only [opE] at ho
     split at ho
     ·rename_i x y hargs
      simp only [bind,Option.bind_eq_some_iff] at ho
      obtain ⟨t,ht,i,hi,e,he,ei,hei,ho⟩:=ho
      split at ho
      ·cases ho
      ·rename_i hc
       simp only [not_or,Decidable.not_not] at hc
       obtain ⟨hc1,hc2,hc3,hc4⟩:=hc
       cases dst with
       | none=>exact absurd rfl hc4
       | some t' =>
        split at ho
        ·rename_i m n cs my ny csy hx hy
         split at ho
         ·cases ho
         ·rename_i hm
          split at ho
          ·cases ho
          ·rename_i hb
           simp only [Option.bind_eq_some_iff,Option.some.injEq,Prod.mk.injEq] at ho
           obtain ⟨m',hm',rfl,rfl⟩:=ho
           exact ok_append h hd x y args argTypes hargs ht hc1 hc2 hi he hei (by simpa using hc3) hx hy (Decidable.not_not.1 hm) (Decidable.not_not.1 hb) hm'
        ·cases ho
     ·cases ho
    ·have:opE g d f { dst:=dst,op:=Op.call { callee:=Callee.builtin b,args:=args,argTypes:=argTypes },type:=ty,pos:=pos,after:=after,guard:=guard } σ =
      (scalarOp g.P σ.env { dst:=dst,op:=Op.call { callee:=Callee.builtin b,args:=args,argTypes:=argTypes },type:=ty,pos:=pos,after:=after,guard:=guard } >>= fun v=>some (AV.one (.s v),σ)):=by
      cases b <;> first | rfl | exact absurd rfl hl | exact absurd rfl ha
     rw [this] at ho
     exact scal (u:=undef) (by simp) ho
 | _=>simp [opE] at ho

end
end Go.Ev

